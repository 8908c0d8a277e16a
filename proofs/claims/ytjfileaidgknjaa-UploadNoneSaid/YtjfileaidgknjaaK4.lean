/- The types and the functions of this seat's program, as the engine asks for them: laid by a program (seatgen.py) out of the translation. Conditions: none. -/
import Derived.Test.YtjfileaidgknjaaChecked
import Derived.Test.YtjfileaidgknjaaK2
import Derived.KernelRfl
namespace Go.Proofs.Ytjfileaidgknjaa
open Go.Eng
def ti1 : TI := ⟨.func #[] #[] false, 1, 8, .nilFunc, []⟩
theorem g1 : good Try.prog (1, ti1) := good_d rfl (by kernel_rfl) (by kernel_rfl)
def ti2 : TI := ⟨.int .i64, 1, 8, .int .i64 0, []⟩
theorem g2 : good Try.prog (2, ti2) := good_d rfl (by kernel_rfl) (by kernel_rfl)
def ti3 : TI := ⟨.int .i64, 1, 8, .int .i64 0, []⟩
theorem g3 : good Try.prog (3, ti3) := good_d rfl (by kernel_rfl) (by kernel_rfl)
def ti4 : TI := ⟨.bool, 1, 1, .bool false, []⟩
theorem g4 : good Try.prog (4, ti4) := good_d rfl (by kernel_rfl) (by kernel_rfl)
def ti5 : TI := ⟨.int .u8, 1, 1, .int .u8 0, []⟩
theorem g5 : good Try.prog (5, ti5) := good_d rfl (by kernel_rfl) (by kernel_rfl)
def ti6 : TI := ⟨.int .u8, 1, 1, .int .u8 0, []⟩
theorem g6 : good Try.prog (6, ti6) := good_d rfl (by kernel_rfl) (by kernel_rfl)
def ti7 : TI := ⟨.struct #[], 4, 24, .agg ⟨[.int .i64 0, .int .i64 0, .bool false, .int .u8 0]⟩, [(2, 0), (3, 1), (4, 2), (6, 3)]⟩
theorem g7 : good Try.prog (7, ti7) := good_s rfl (by kernel_rfl) (by kernel_rfl)
def ti8 : TI := ⟨.struct #[], 4, 24, .agg ⟨[.int .i64 0, .int .i64 0, .bool false, .int .u8 0]⟩, [(2, 0), (3, 1), (4, 2), (6, 3)]⟩
theorem g8 : good Try.prog (8, ti8) := good_s rfl (by kernel_rfl) (by kernel_rfl)
def ti9 : TI := ⟨.string, 1, 16, .string ⟨⟨[]⟩⟩, []⟩
theorem g9 : good Try.prog (9, ti9) := good_d rfl (by kernel_rfl) (by kernel_rfl)
def ti10 : TI := ⟨.string, 1, 16, .string ⟨⟨[]⟩⟩, []⟩
theorem g10 : good Try.prog (10, ti10) := good_d rfl (by kernel_rfl) (by kernel_rfl)
def ti11 : TI := ⟨.string, 1, 16, .string ⟨⟨[]⟩⟩, []⟩
theorem g11 : good Try.prog (11, ti11) := good_d rfl (by kernel_rfl) (by kernel_rfl)
def ti12 : TI := ⟨.int .u64, 1, 8, .int .u64 0, []⟩
theorem g12 : good Try.prog (12, ti12) := good_d rfl (by kernel_rfl) (by kernel_rfl)
def ti13 : TI := ⟨.struct #[], 2, 24, .agg ⟨[.string ⟨⟨[]⟩⟩, .int .u64 0]⟩, [(9, 0), (12, 1)]⟩
theorem g13 : good Try.prog (13, ti13) := good_s rfl (by kernel_rfl) (by kernel_rfl)
def ti14 : TI := ⟨.struct #[], 2, 24, .agg ⟨[.string ⟨⟨[]⟩⟩, .int .u64 0]⟩, [(9, 0), (12, 1)]⟩
theorem g14 : good Try.prog (14, ti14) := good_s rfl (by kernel_rfl) (by kernel_rfl)
def ti15 : TI := ⟨.pointer 140, 1, 8, .pointer none, []⟩
theorem g15 : good Try.prog (15, ti15) := good_d rfl (by kernel_rfl) (by kernel_rfl)
def ti16 : TI := ⟨.pointer 143, 1, 8, .pointer none, []⟩
theorem g16 : good Try.prog (16, ti16) := good_d rfl (by kernel_rfl) (by kernel_rfl)
def ti17 : TI := ⟨.pointer 151, 1, 8, .pointer none, []⟩
theorem g17 : good Try.prog (17, ti17) := good_d rfl (by kernel_rfl) (by kernel_rfl)
def ti18 : TI := ⟨.struct #[], 1, 8, .agg ⟨[.pointer none]⟩, [(17, 0)]⟩
theorem g18 : good Try.prog (18, ti18) := good_s rfl (by kernel_rfl) (by kernel_rfl)
def ti19 : TI := ⟨.struct #[], 1, 8, .agg ⟨[.pointer none]⟩, [(17, 0)]⟩
theorem g19 : good Try.prog (19, ti19) := good_s rfl (by kernel_rfl) (by kernel_rfl)
def ti21 : TI := ⟨.int .i32, 1, 4, .int .i32 0, []⟩
theorem g21 : good Try.prog (21, ti21) := good_d rfl (by kernel_rfl) (by kernel_rfl)
def ti22 : TI := ⟨.slice 35, 1, 24, .slice none 0 0, []⟩
theorem g22 : good Try.prog (22, ti22) := good_d rfl (by kernel_rfl) (by kernel_rfl)
def ti23 : TI := ⟨.func #[22] #[4] false, 1, 8, .nilFunc, []⟩
theorem g23 : good Try.prog (23, ti23) := good_d rfl (by kernel_rfl) (by kernel_rfl)
def ti24 : TI := ⟨.func #[] #[4] false, 1, 8, .nilFunc, []⟩
theorem g24 : good Try.prog (24, ti24) := good_d rfl (by kernel_rfl) (by kernel_rfl)
def ti25 : TI := ⟨.pointer 54, 1, 8, .pointer none, []⟩
theorem g25 : good Try.prog (25, ti25) := good_d rfl (by kernel_rfl) (by kernel_rfl)
def ti26 : TI := ⟨.int .i64, 1, 8, .int .i64 0, []⟩
theorem g26 : good Try.prog (26, ti26) := good_d rfl (by kernel_rfl) (by kernel_rfl)
def ti28 : TI := ⟨.func #[3] #[25, 26] false, 1, 8, .nilFunc, []⟩
theorem g28 : good Try.prog (28, ti28) := good_d rfl (by kernel_rfl) (by kernel_rfl)
def ti29 : TI := ⟨.pointer 39, 1, 8, .pointer none, []⟩
theorem g29 : good Try.prog (29, ti29) := good_d rfl (by kernel_rfl) (by kernel_rfl)
def ti31 : TI := ⟨.func #[3] #[29, 26] false, 1, 8, .nilFunc, []⟩
theorem g31 : good Try.prog (31, ti31) := good_d rfl (by kernel_rfl) (by kernel_rfl)
def ti32 : TI := ⟨.func #[25, 29, 35] #[4] false, 1, 8, .nilFunc, []⟩
theorem g32 : good Try.prog (32, ti32) := good_d rfl (by kernel_rfl) (by kernel_rfl)
def ti33 : TI := ⟨.slice 5, 1, 24, .slice none 0 0, []⟩
theorem g33 : good Try.prog (33, ti33) := good_d rfl (by kernel_rfl) (by kernel_rfl)
def ti34 : TI := ⟨.struct #[], 7, 80, .agg ⟨[.int .i64 0, .int .i64 0, .int .i64 0, .int .i64 0, .int .u8 0, .string ⟨⟨[]⟩⟩, .slice none 0 0]⟩, [(3, 0), (3, 1), (3, 2), (3, 3), (5, 4), (9, 5), (33, 6)]⟩
theorem g34 : good Try.prog (34, ti34) := good_s rfl (by kernel_rfl) (by kernel_rfl)
def ti35 : TI := ⟨.struct #[], 7, 80, .agg ⟨[.int .i64 0, .int .i64 0, .int .i64 0, .int .i64 0, .int .u8 0, .string ⟨⟨[]⟩⟩, .slice none 0 0]⟩, [(3, 0), (3, 1), (3, 2), (3, 3), (5, 4), (9, 5), (33, 6)]⟩
theorem g35 : good Try.prog (35, ti35) := good_s rfl (by kernel_rfl) (by kernel_rfl)
def ti36 : TI := ⟨.func #[] #[3] false, 1, 8, .nilFunc, []⟩
theorem g36 : good Try.prog (36, ti36) := good_d rfl (by kernel_rfl) (by kernel_rfl)
def ti37 : TI := ⟨.slice 45, 1, 24, .slice none 0 0, []⟩
theorem g37 : good Try.prog (37, ti37) := good_d rfl (by kernel_rfl) (by kernel_rfl)
def ti38 : TI := ⟨.struct #[], 3, 40, .agg ⟨[.int .i64 0, .int .i64 0, .slice none 0 0]⟩, [(3, 0), (3, 1), (37, 2)]⟩
theorem g38 : good Try.prog (38, ti38) := good_s rfl (by kernel_rfl) (by kernel_rfl)
def ti39 : TI := ⟨.struct #[], 3, 40, .agg ⟨[.int .i64 0, .int .i64 0, .slice none 0 0]⟩, [(3, 0), (3, 1), (37, 2)]⟩
theorem g39 : good Try.prog (39, ti39) := good_s rfl (by kernel_rfl) (by kernel_rfl)
def ti40 : TI := ⟨.func #[] #[37] false, 1, 8, .nilFunc, []⟩
theorem g40 : good Try.prog (40, ti40) := good_d rfl (by kernel_rfl) (by kernel_rfl)
def ti41 : TI := ⟨.func #[37, 37] #[4] false, 1, 8, .nilFunc, []⟩
theorem g41 : good Try.prog (41, ti41) := good_d rfl (by kernel_rfl) (by kernel_rfl)
def ti42 : TI := ⟨.func #[37] #[] false, 1, 8, .nilFunc, []⟩
theorem g42 : good Try.prog (42, ti42) := good_d rfl (by kernel_rfl) (by kernel_rfl)
def ti43 : TI := ⟨.func #[3, 22] #[4] false, 1, 8, .nilFunc, []⟩
theorem g43 : good Try.prog (43, ti43) := good_d rfl (by kernel_rfl) (by kernel_rfl)
def ti44 : TI := ⟨.struct #[], 3, 48, .agg ⟨[.int .i64 0, .string ⟨⟨[]⟩⟩, .slice none 0 0]⟩, [(3, 0), (9, 1), (33, 2)]⟩
theorem g44 : good Try.prog (44, ti44) := good_s rfl (by kernel_rfl) (by kernel_rfl)
def ti45 : TI := ⟨.struct #[], 3, 48, .agg ⟨[.int .i64 0, .string ⟨⟨[]⟩⟩, .slice none 0 0]⟩, [(3, 0), (9, 1), (33, 2)]⟩
theorem g45 : good Try.prog (45, ti45) := good_s rfl (by kernel_rfl) (by kernel_rfl)
def ti46 : TI := ⟨.func #[37] #[37] false, 1, 8, .nilFunc, []⟩
theorem g46 : good Try.prog (46, ti46) := good_d rfl (by kernel_rfl) (by kernel_rfl)
def ti47 : TI := ⟨.func #[3, 3, 37] #[25, 26] false, 1, 8, .nilFunc, []⟩
theorem g47 : good Try.prog (47, ti47) := good_d rfl (by kernel_rfl) (by kernel_rfl)
def ti48 : TI := ⟨.func #[3, 3, 37] #[29, 26] false, 1, 8, .nilFunc, []⟩
theorem g48 : good Try.prog (48, ti48) := good_d rfl (by kernel_rfl) (by kernel_rfl)
def ti49 : TI := ⟨.func #[3, 3, 37, 22] #[4] false, 1, 8, .nilFunc, []⟩
theorem g49 : good Try.prog (49, ti49) := good_d rfl (by kernel_rfl) (by kernel_rfl)
def ti50 : TI := ⟨.array 32 5, 32, 32, .agg ⟨[.int .u8 0, .int .u8 0, .int .u8 0, .int .u8 0, .int .u8 0, .int .u8 0, .int .u8 0, .int .u8 0, .int .u8 0, .int .u8 0, .int .u8 0, .int .u8 0, .int .u8 0, .int .u8 0, .int .u8 0, .int .u8 0, .int .u8 0, .int .u8 0, .int .u8 0, .int .u8 0, .int .u8 0, .int .u8 0, .int .u8 0, .int .u8 0, .int .u8 0, .int .u8 0, .int .u8 0, .int .u8 0, .int .u8 0, .int .u8 0, .int .u8 0, .int .u8 0]⟩, []⟩
theorem g50 : good Try.prog (50, ti50) := good_d rfl (by kernel_rfl) (by kernel_rfl)
def ti51 : TI := ⟨.array 32 5, 32, 32, .agg ⟨[.int .u8 0, .int .u8 0, .int .u8 0, .int .u8 0, .int .u8 0, .int .u8 0, .int .u8 0, .int .u8 0, .int .u8 0, .int .u8 0, .int .u8 0, .int .u8 0, .int .u8 0, .int .u8 0, .int .u8 0, .int .u8 0, .int .u8 0, .int .u8 0, .int .u8 0, .int .u8 0, .int .u8 0, .int .u8 0, .int .u8 0, .int .u8 0, .int .u8 0, .int .u8 0, .int .u8 0, .int .u8 0, .int .u8 0, .int .u8 0, .int .u8 0, .int .u8 0]⟩, []⟩
theorem g51 : good Try.prog (51, ti51) := good_d rfl (by kernel_rfl) (by kernel_rfl)
def ti52 : TI := ⟨.slice 79, 1, 24, .slice none 0 0, []⟩
theorem g52 : good Try.prog (52, ti52) := good_d rfl (by kernel_rfl) (by kernel_rfl)
def ti53 : TI := ⟨.struct #[], 3, 40, .agg ⟨[.int .i64 0, .int .i64 0, .slice none 0 0]⟩, [(3, 0), (3, 1), (52, 2)]⟩
theorem g53 : good Try.prog (53, ti53) := good_s rfl (by kernel_rfl) (by kernel_rfl)
def ti54 : TI := ⟨.struct #[], 3, 40, .agg ⟨[.int .i64 0, .int .i64 0, .slice none 0 0]⟩, [(3, 0), (3, 1), (52, 2)]⟩
theorem g54 : good Try.prog (54, ti54) := good_s rfl (by kernel_rfl) (by kernel_rfl)
def ti55 : TI := ⟨.slice 25, 1, 24, .slice none 0 0, []⟩
theorem g55 : good Try.prog (55, ti55) := good_d rfl (by kernel_rfl) (by kernel_rfl)
def ti57 : TI := ⟨.func #[9] #[3, 26] false, 1, 8, .nilFunc, []⟩
theorem g57 : good Try.prog (57, ti57) := good_d rfl (by kernel_rfl) (by kernel_rfl)
def ti58 : TI := ⟨.func #[3, 3, 33] #[3, 26] false, 1, 8, .nilFunc, []⟩
theorem g58 : good Try.prog (58, ti58) := good_d rfl (by kernel_rfl) (by kernel_rfl)
def ti59 : TI := ⟨.func #[3] #[3, 26] false, 1, 8, .nilFunc, []⟩
theorem g59 : good Try.prog (59, ti59) := good_d rfl (by kernel_rfl) (by kernel_rfl)
def ti61 : TI := ⟨.func #[3, 51] #[45, 26] false, 1, 8, .nilFunc, []⟩
theorem g61 : good Try.prog (61, ti61) := good_d rfl (by kernel_rfl) (by kernel_rfl)
def ti62 : TI := ⟨.func #[45, 45] #[4] false, 1, 8, .nilFunc, []⟩
theorem g62 : good Try.prog (62, ti62) := good_d rfl (by kernel_rfl) (by kernel_rfl)
def ti63 : TI := ⟨.func #[3] #[26] false, 1, 8, .nilFunc, []⟩
theorem g63 : good Try.prog (63, ti63) := good_d rfl (by kernel_rfl) (by kernel_rfl)
def ti64 : TI := ⟨.func #[3, 3, 33, 51] #[4] false, 1, 8, .nilFunc, []⟩
theorem g64 : good Try.prog (64, ti64) := good_d rfl (by kernel_rfl) (by kernel_rfl)
def ti65 : TI := ⟨.func #[] #[25] false, 1, 8, .nilFunc, []⟩
theorem g65 : good Try.prog (65, ti65) := good_d rfl (by kernel_rfl) (by kernel_rfl)
def ti67 : TI := ⟨.func #[33, 3] #[51, 26] false, 1, 8, .nilFunc, []⟩
theorem g67 : good Try.prog (67, ti67) := good_d rfl (by kernel_rfl) (by kernel_rfl)
def ti68 : TI := ⟨.func #[25, 9, 3, 26] #[4] false, 1, 8, .nilFunc, []⟩
theorem g68 : good Try.prog (68, ti68) := good_d rfl (by kernel_rfl) (by kernel_rfl)
def ti69 : TI := ⟨.slice 3, 1, 24, .slice none 0 0, []⟩
theorem g69 : good Try.prog (69, ti69) := good_d rfl (by kernel_rfl) (by kernel_rfl)
def ti70 : TI := ⟨.func #[3, 3] #[3] false, 1, 8, .nilFunc, []⟩
theorem g70 : good Try.prog (70, ti70) := good_d rfl (by kernel_rfl) (by kernel_rfl)
def ti71 : TI := ⟨.func #[25, 3, 3, 9, 3, 26] #[4] false, 1, 8, .nilFunc, []⟩
theorem g71 : good Try.prog (71, ti71) := good_d rfl (by kernel_rfl) (by kernel_rfl)
def ti72 : TI := ⟨.func #[33, 69, 3] #[4] false, 1, 8, .nilFunc, []⟩
theorem g72 : good Try.prog (72, ti72) := good_d rfl (by kernel_rfl) (by kernel_rfl)
def ti73 : TI := ⟨.func #[25, 35, 4, 25] #[4] false, 1, 8, .nilFunc, []⟩
theorem g73 : good Try.prog (73, ti73) := good_d rfl (by kernel_rfl) (by kernel_rfl)
def ti74 : TI := ⟨.func #[22, 3, 3] #[4] false, 1, 8, .nilFunc, []⟩
theorem g74 : good Try.prog (74, ti74) := good_d rfl (by kernel_rfl) (by kernel_rfl)
def ti75 : TI := ⟨.func #[33] #[33] false, 1, 8, .nilFunc, []⟩
theorem g75 : good Try.prog (75, ti75) := good_d rfl (by kernel_rfl) (by kernel_rfl)
def ti76 : TI := ⟨.func #[33, 33] #[4] false, 1, 8, .nilFunc, []⟩
theorem g76 : good Try.prog (76, ti76) := good_d rfl (by kernel_rfl) (by kernel_rfl)
def ti77 : TI := ⟨.func #[33] #[] false, 1, 8, .nilFunc, []⟩
theorem g77 : good Try.prog (77, ti77) := good_d rfl (by kernel_rfl) (by kernel_rfl)
def ti78 : TI := ⟨.func #[29, 35] #[51] false, 1, 8, .nilFunc, []⟩
theorem g78 : good Try.prog (78, ti78) := good_d rfl (by kernel_rfl) (by kernel_rfl)
def ti79 : TI := ⟨.pointer 86, 1, 8, .pointer none, []⟩
theorem g79 : good Try.prog (79, ti79) := good_d rfl (by kernel_rfl) (by kernel_rfl)
def ti80 : TI := ⟨.func #[] #[45] false, 1, 8, .nilFunc, []⟩
theorem g80 : good Try.prog (80, ti80) := good_d rfl (by kernel_rfl) (by kernel_rfl)
def ti81 : TI := ⟨.struct #[], 2, 16, .agg ⟨[.int .i64 0, .int .i64 0]⟩, [(26, 0), (3, 1)]⟩
theorem g81 : good Try.prog (81, ti81) := good_s rfl (by kernel_rfl) (by kernel_rfl)
def ti82 : TI := ⟨.struct #[], 2, 16, .agg ⟨[.int .i64 0, .int .i64 0]⟩, [(26, 0), (3, 1)]⟩
theorem g82 : good Try.prog (82, ti82) := good_s rfl (by kernel_rfl) (by kernel_rfl)
def ti83 : TI := ⟨.func #[9] #[82] false, 1, 8, .nilFunc, []⟩
theorem g83 : good Try.prog (83, ti83) := good_d rfl (by kernel_rfl) (by kernel_rfl)
def ti84 : TI := ⟨.slice 33, 1, 24, .slice none 0 0, []⟩
theorem g84 : good Try.prog (84, ti84) := good_d rfl (by kernel_rfl) (by kernel_rfl)
def ti85 : TI := ⟨.struct #[], 4, 56, .agg ⟨[.int .i64 0, .int .i64 0, .string ⟨⟨[]⟩⟩, .slice none 0 0]⟩, [(3, 0), (3, 1), (9, 2), (84, 3)]⟩
theorem g85 : good Try.prog (85, ti85) := good_s rfl (by kernel_rfl) (by kernel_rfl)
def ti86 : TI := ⟨.struct #[], 4, 56, .agg ⟨[.int .i64 0, .int .i64 0, .string ⟨⟨[]⟩⟩, .slice none 0 0]⟩, [(3, 0), (3, 1), (9, 2), (84, 3)]⟩
theorem g86 : good Try.prog (86, ti86) := good_s rfl (by kernel_rfl) (by kernel_rfl)
def ti87 : TI := ⟨.func #[3, 88] #[26] false, 1, 8, .nilFunc, []⟩
theorem g87 : good Try.prog (87, ti87) := good_d rfl (by kernel_rfl) (by kernel_rfl)
def ti88 : TI := ⟨.func #[3, 79] #[26] false, 1, 8, .nilFunc, []⟩
theorem g88 : good Try.prog (88, ti88) := good_d rfl (by kernel_rfl) (by kernel_rfl)
def ti89 : TI := ⟨.func #[52, 3, 3] #[52] false, 1, 8, .nilFunc, []⟩
theorem g89 : good Try.prog (89, ti89) := good_d rfl (by kernel_rfl) (by kernel_rfl)
def ti90 : TI := ⟨.func #[51, 3] #[51, 26] false, 1, 8, .nilFunc, []⟩
theorem g90 : good Try.prog (90, ti90) := good_d rfl (by kernel_rfl) (by kernel_rfl)
def ti91 : TI := ⟨.func #[33] #[51] false, 1, 8, .nilFunc, []⟩
theorem g91 : good Try.prog (91, ti91) := good_d rfl (by kernel_rfl) (by kernel_rfl)
def ti92 : TI := ⟨.func #[25, 35] #[3, 26] false, 1, 8, .nilFunc, []⟩
theorem g92 : good Try.prog (92, ti92) := good_d rfl (by kernel_rfl) (by kernel_rfl)
def ti93 : TI := ⟨.func #[3] #[3] false, 1, 8, .nilFunc, []⟩
theorem g93 : good Try.prog (93, ti93) := good_d rfl (by kernel_rfl) (by kernel_rfl)
def ti94 : TI := ⟨.pointer 45, 1, 8, .pointer none, []⟩
theorem g94 : good Try.prog (94, ti94) := good_d rfl (by kernel_rfl) (by kernel_rfl)
def ti95 : TI := ⟨.func #[3] #[45] false, 1, 8, .nilFunc, []⟩
theorem g95 : good Try.prog (95, ti95) := good_d rfl (by kernel_rfl) (by kernel_rfl)
def ti96 : TI := ⟨.func #[] #[33] false, 1, 8, .nilFunc, []⟩
theorem g96 : good Try.prog (96, ti96) := good_d rfl (by kernel_rfl) (by kernel_rfl)
def ti98 : TI := ⟨.func #[9, 3] #[82, 4] false, 1, 8, .nilFunc, []⟩
theorem g98 : good Try.prog (98, ti98) := good_d rfl (by kernel_rfl) (by kernel_rfl)
def ti99 : TI := ⟨.func #[9, 100, 26] #[82] false, 1, 8, .nilFunc, []⟩
theorem g99 : good Try.prog (99, ti99) := good_d rfl (by kernel_rfl) (by kernel_rfl)
def ti100 : TI := ⟨.pointer 118, 1, 8, .pointer none, []⟩
theorem g100 : good Try.prog (100, ti100) := good_d rfl (by kernel_rfl) (by kernel_rfl)
def ti101 : TI := ⟨.struct #[], 1, 8, .agg ⟨[.int .i64 0]⟩, [(3, 0)]⟩
theorem g101 : good Try.prog (101, ti101) := good_s rfl (by kernel_rfl) (by kernel_rfl)
def ti102 : TI := ⟨.struct #[], 1, 8, .agg ⟨[.int .i64 0]⟩, [(3, 0)]⟩
theorem g102 : good Try.prog (102, ti102) := good_s rfl (by kernel_rfl) (by kernel_rfl)
def ti103 : TI := ⟨.func #[] #[100] false, 1, 8, .nilFunc, []⟩
theorem g103 : good Try.prog (103, ti103) := good_d rfl (by kernel_rfl) (by kernel_rfl)
def ti104 : TI := ⟨.func #[26, 3] #[82] false, 1, 8, .nilFunc, []⟩
theorem g104 : good Try.prog (104, ti104) := good_d rfl (by kernel_rfl) (by kernel_rfl)
def ti105 : TI := ⟨.func #[9, 21] #[4] false, 1, 8, .nilFunc, []⟩
theorem g105 : good Try.prog (105, ti105) := good_d rfl (by kernel_rfl) (by kernel_rfl)
def ti106 : TI := ⟨.func #[21] #[4] false, 1, 8, .nilFunc, []⟩
theorem g106 : good Try.prog (106, ti106) := good_d rfl (by kernel_rfl) (by kernel_rfl)
def ti108 : TI := ⟨.func #[3] #[3, 4] false, 1, 8, .nilFunc, []⟩
theorem g108 : good Try.prog (108, ti108) := good_d rfl (by kernel_rfl) (by kernel_rfl)
def ti109 : TI := ⟨.pointer 127, 1, 8, .pointer none, []⟩
theorem g109 : good Try.prog (109, ti109) := good_d rfl (by kernel_rfl) (by kernel_rfl)
def ti110 : TI := ⟨.func #[] #[109] false, 1, 8, .nilFunc, []⟩
theorem g110 : good Try.prog (110, ti110) := good_d rfl (by kernel_rfl) (by kernel_rfl)
def ti111 : TI := ⟨.func #[33] #[26] false, 1, 8, .nilFunc, []⟩
theorem g111 : good Try.prog (111, ti111) := good_d rfl (by kernel_rfl) (by kernel_rfl)
def ti112 : TI := ⟨.func #[] #[51, 26] false, 1, 8, .nilFunc, []⟩
theorem g112 : good Try.prog (112, ti112) := good_d rfl (by kernel_rfl) (by kernel_rfl)
def ti113 : TI := ⟨.func #[130] #[] false, 1, 8, .nilFunc, []⟩
theorem g113 : good Try.prog (113, ti113) := good_d rfl (by kernel_rfl) (by kernel_rfl)
def ti114 : TI := ⟨.func #[130] #[] false, 1, 8, .nilFunc, []⟩
theorem g114 : good Try.prog (114, ti114) := good_d rfl (by kernel_rfl) (by kernel_rfl)
def ti115 : TI := ⟨.func #[] #[114] false, 1, 8, .nilFunc, []⟩
theorem g115 : good Try.prog (115, ti115) := good_d rfl (by kernel_rfl) (by kernel_rfl)
def ti116 : TI := ⟨.func #[119] #[100] false, 1, 8, .nilFunc, []⟩
theorem g116 : good Try.prog (116, ti116) := good_d rfl (by kernel_rfl) (by kernel_rfl)
def ti117 : TI := ⟨.struct #[], 2, 16, .agg ⟨[.nilFunc, .bool false]⟩, [(116, 0), (4, 1)]⟩
theorem g117 : good Try.prog (117, ti117) := good_s rfl (by kernel_rfl) (by kernel_rfl)
def ti118 : TI := ⟨.struct #[], 2, 16, .agg ⟨[.nilFunc, .bool false]⟩, [(116, 0), (4, 1)]⟩
theorem g118 : good Try.prog (118, ti118) := good_s rfl (by kernel_rfl) (by kernel_rfl)
def ti119 : TI := ⟨.int .i32, 1, 4, .int .i32 0, []⟩
theorem g119 : good Try.prog (119, ti119) := good_d rfl (by kernel_rfl) (by kernel_rfl)
def ti120 : TI := ⟨.func #[52, 3, 121] #[3, 4] false, 1, 8, .nilFunc, []⟩
theorem g120 : good Try.prog (120, ti120) := good_d rfl (by kernel_rfl) (by kernel_rfl)
def ti121 : TI := ⟨.func #[79, 3] #[3] false, 1, 8, .nilFunc, []⟩
theorem g121 : good Try.prog (121, ti121) := good_d rfl (by kernel_rfl) (by kernel_rfl)
def ti122 : TI := ⟨.int .u32, 1, 4, .int .u32 0, []⟩
theorem g122 : good Try.prog (122, ti122) := good_d rfl (by kernel_rfl) (by kernel_rfl)
def ti123 : TI := ⟨.array 8 122, 8, 32, .agg ⟨[.int .u32 0, .int .u32 0, .int .u32 0, .int .u32 0, .int .u32 0, .int .u32 0, .int .u32 0, .int .u32 0]⟩, []⟩
theorem g123 : good Try.prog (123, ti123) := good_d rfl (by kernel_rfl) (by kernel_rfl)
def ti124 : TI := ⟨.array 8 122, 8, 32, .agg ⟨[.int .u32 0, .int .u32 0, .int .u32 0, .int .u32 0, .int .u32 0, .int .u32 0, .int .u32 0, .int .u32 0]⟩, []⟩
theorem g124 : good Try.prog (124, ti124) := good_d rfl (by kernel_rfl) (by kernel_rfl)
def ti125 : TI := ⟨.func #[] #[124] false, 1, 8, .nilFunc, []⟩
theorem g125 : good Try.prog (125, ti125) := good_d rfl (by kernel_rfl) (by kernel_rfl)
def ti126 : TI := ⟨.struct #[], 11, 72, .agg ⟨[.int .u32 0, .int .u32 0, .int .u32 0, .int .u32 0, .int .u32 0, .int .u32 0, .int .u32 0, .int .u32 0, .slice none 0 0, .int .i64 0, .bool false]⟩, [(124, 0), (33, 8), (3, 9), (4, 10)]⟩
theorem g126 : good Try.prog (126, ti126) := good_s rfl (by kernel_rfl) (by kernel_rfl)
def ti127 : TI := ⟨.struct #[], 11, 72, .agg ⟨[.int .u32 0, .int .u32 0, .int .u32 0, .int .u32 0, .int .u32 0, .int .u32 0, .int .u32 0, .int .u32 0, .slice none 0 0, .int .i64 0, .bool false]⟩, [(124, 0), (33, 8), (3, 9), (4, 10)]⟩
theorem g127 : good Try.prog (127, ti127) := good_s rfl (by kernel_rfl) (by kernel_rfl)
def ti128 : TI := ⟨.int .u64, 1, 8, .int .u64 0, []⟩
theorem g128 : good Try.prog (128, ti128) := good_d rfl (by kernel_rfl) (by kernel_rfl)
def ti129 : TI := ⟨.func #[123, 33] #[123] false, 1, 8, .nilFunc, []⟩
theorem g129 : good Try.prog (129, ti129) := good_d rfl (by kernel_rfl) (by kernel_rfl)
def ti130 : TI := ⟨.func #[5] #[4] false, 1, 8, .nilFunc, []⟩
theorem g130 : good Try.prog (130, ti130) := good_d rfl (by kernel_rfl) (by kernel_rfl)
def ti131 : TI := ⟨.int .u64, 1, 8, .int .u64 0, []⟩
theorem g131 : good Try.prog (131, ti131) := good_d rfl (by kernel_rfl) (by kernel_rfl)
def ti132 : TI := ⟨.func #[3] #[4] false, 1, 8, .nilFunc, []⟩
theorem g132 : good Try.prog (132, ti132) := good_d rfl (by kernel_rfl) (by kernel_rfl)
def ti133 : TI := ⟨.pointer 124, 1, 8, .pointer none, []⟩
theorem g133 : good Try.prog (133, ti133) := good_d rfl (by kernel_rfl) (by kernel_rfl)
def ti134 : TI := ⟨.array 64 122, 64, 256, .agg ⟨[.int .u32 0, .int .u32 0, .int .u32 0, .int .u32 0, .int .u32 0, .int .u32 0, .int .u32 0, .int .u32 0, .int .u32 0, .int .u32 0, .int .u32 0, .int .u32 0, .int .u32 0, .int .u32 0, .int .u32 0, .int .u32 0, .int .u32 0, .int .u32 0, .int .u32 0, .int .u32 0, .int .u32 0, .int .u32 0, .int .u32 0, .int .u32 0, .int .u32 0, .int .u32 0, .int .u32 0, .int .u32 0, .int .u32 0, .int .u32 0, .int .u32 0, .int .u32 0, .int .u32 0, .int .u32 0, .int .u32 0, .int .u32 0, .int .u32 0, .int .u32 0, .int .u32 0, .int .u32 0, .int .u32 0, .int .u32 0, .int .u32 0, .int .u32 0, .int .u32 0, .int .u32 0, .int .u32 0, .int .u32 0, .int .u32 0, .int .u32 0, .int .u32 0, .int .u32 0, .int .u32 0, .int .u32 0, .int .u32 0, .int .u32 0, .int .u32 0, .int .u32 0, .int .u32 0, .int .u32 0, .int .u32 0, .int .u32 0, .int .u32 0, .int .u32 0]⟩, []⟩
theorem g134 : good Try.prog (134, ti134) := good_d rfl (by kernel_rfl) (by kernel_rfl)
def ti135 : TI := ⟨.func #[] #[134] false, 1, 8, .nilFunc, []⟩
theorem g135 : good Try.prog (135, ti135) := good_d rfl (by kernel_rfl) (by kernel_rfl)
def ti136 : TI := ⟨.func #[33] #[134] false, 1, 8, .nilFunc, []⟩
theorem g136 : good Try.prog (136, ti136) := good_d rfl (by kernel_rfl) (by kernel_rfl)
def ti137 : TI := ⟨.func #[122, 3] #[122] false, 1, 8, .nilFunc, []⟩
theorem g137 : good Try.prog (137, ti137) := good_d rfl (by kernel_rfl) (by kernel_rfl)
def ti138 : TI := ⟨.func #[] #[9] false, 1, 8, .nilFunc, []⟩
theorem g138 : good Try.prog (138, ti138) := good_d rfl (by kernel_rfl) (by kernel_rfl)
def ti139 : TI := ⟨.struct #[], 4, 40, .agg ⟨[.pointer none, .pointer none, .pointer none, .string ⟨⟨[]⟩⟩]⟩, [(17, 0), (17, 1), (17, 2), (9, 3)]⟩
theorem g139 : good Try.prog (139, ti139) := good_s rfl (by kernel_rfl) (by kernel_rfl)
def ti140 : TI := ⟨.struct #[], 4, 40, .agg ⟨[.pointer none, .pointer none, .pointer none, .string ⟨⟨[]⟩⟩]⟩, [(17, 0), (17, 1), (17, 2), (9, 3)]⟩
theorem g140 : good Try.prog (140, ti140) := good_s rfl (by kernel_rfl) (by kernel_rfl)
def ti141 : TI := ⟨.array 0 16, 0, 0, .agg ⟨[]⟩, []⟩
theorem g141 : good Try.prog (141, ti141) := good_d rfl (by kernel_rfl) (by kernel_rfl)
def ti142 : TI := ⟨.struct #[], 0, 0, .agg ⟨[]⟩, [(141, 0)]⟩
theorem g142 : good Try.prog (142, ti142) := good_s rfl (by kernel_rfl) (by kernel_rfl)
def ti143 : TI := ⟨.struct #[], 0, 0, .agg ⟨[]⟩, [(141, 0)]⟩
theorem g143 : good Try.prog (143, ti143) := good_s rfl (by kernel_rfl) (by kernel_rfl)
def ti144 : TI := ⟨.int .u8, 1, 1, .int .u8 0, []⟩
theorem g144 : good Try.prog (144, ti144) := good_d rfl (by kernel_rfl) (by kernel_rfl)
def ti145 : TI := ⟨.int .u8, 1, 1, .int .u8 0, []⟩
theorem g145 : good Try.prog (145, ti145) := good_d rfl (by kernel_rfl) (by kernel_rfl)
def ti146 : TI := ⟨.func #[152, 152] #[4] false, 1, 8, .nilFunc, []⟩
theorem g146 : good Try.prog (146, ti146) := good_d rfl (by kernel_rfl) (by kernel_rfl)
def ti147 : TI := ⟨.pointer 5, 1, 8, .pointer none, []⟩
theorem g147 : good Try.prog (147, ti147) := good_d rfl (by kernel_rfl) (by kernel_rfl)
def ti148 : TI := ⟨.int .i32, 1, 4, .int .i32 0, []⟩
theorem g148 : good Try.prog (148, ti148) := good_d rfl (by kernel_rfl) (by kernel_rfl)
def ti149 : TI := ⟨.int .i32, 1, 4, .int .i32 0, []⟩
theorem g149 : good Try.prog (149, ti149) := good_d rfl (by kernel_rfl) (by kernel_rfl)
def ti150 : TI := ⟨.struct #[], 11, 48, .agg ⟨[.int .u64 0, .int .u64 0, .int .u32 0, .int .u8 0, .int .u8 0, .int .u8 0, .int .u8 0, .nilFunc, .pointer none, .int .i32 0, .int .i32 0]⟩, [(12, 0), (12, 1), (122, 2), (144, 3), (5, 4), (5, 5), (145, 6), (146, 7), (147, 8), (148, 9), (149, 10)]⟩
theorem g150 : good Try.prog (150, ti150) := good_s rfl (by kernel_rfl) (by kernel_rfl)
def ti151 : TI := ⟨.struct #[], 11, 48, .agg ⟨[.int .u64 0, .int .u64 0, .int .u32 0, .int .u8 0, .int .u8 0, .int .u8 0, .int .u8 0, .nilFunc, .pointer none, .int .i32 0, .int .i32 0]⟩, [(12, 0), (12, 1), (122, 2), (144, 3), (5, 4), (5, 5), (145, 6), (146, 7), (147, 8), (148, 9), (149, 10)]⟩
theorem g151 : good Try.prog (151, ti151) := good_s rfl (by kernel_rfl) (by kernel_rfl)
def tts : List (Nat × TI) := [(1, ti1), (2, ti2), (3, ti3), (4, ti4), (5, ti5), (6, ti6), (7, ti7), (8, ti8), (9, ti9), (10, ti10), (11, ti11), (12, ti12), (13, ti13), (14, ti14), (15, ti15), (16, ti16), (17, ti17), (18, ti18), (19, ti19), (21, ti21), (22, ti22), (23, ti23), (24, ti24), (25, ti25), (26, ti26), (28, ti28), (29, ti29), (31, ti31), (32, ti32), (33, ti33), (34, ti34), (35, ti35), (36, ti36), (37, ti37), (38, ti38), (39, ti39), (40, ti40), (41, ti41), (42, ti42), (43, ti43), (44, ti44), (45, ti45), (46, ti46), (47, ti47), (48, ti48), (49, ti49), (50, ti50), (51, ti51), (52, ti52), (53, ti53), (54, ti54), (55, ti55), (57, ti57), (58, ti58), (59, ti59), (61, ti61), (62, ti62), (63, ti63), (64, ti64), (65, ti65), (67, ti67), (68, ti68), (69, ti69), (70, ti70), (71, ti71), (72, ti72), (73, ti73), (74, ti74), (75, ti75), (76, ti76), (77, ti77), (78, ti78), (79, ti79), (80, ti80), (81, ti81), (82, ti82), (83, ti83), (84, ti84), (85, ti85), (86, ti86), (87, ti87), (88, ti88), (89, ti89), (90, ti90), (91, ti91), (92, ti92), (93, ti93), (94, ti94), (95, ti95), (96, ti96), (98, ti98), (99, ti99), (100, ti100), (101, ti101), (102, ti102), (103, ti103), (104, ti104), (105, ti105), (106, ti106), (108, ti108), (109, ti109), (110, ti110), (111, ti111), (112, ti112), (113, ti113), (114, ti114), (115, ti115), (116, ti116), (117, ti117), (118, ti118), (119, ti119), (120, ti120), (121, ti121), (122, ti122), (123, ti123), (124, ti124), (125, ti125), (126, ti126), (127, ti127), (128, ti128), (129, ti129), (130, ti130), (131, ti131), (132, ti132), (133, ti133), (134, ti134), (135, ti135), (136, ti136), (137, ti137), (138, ti138), (139, ti139), (140, ti140), (141, ti141), (142, ti142), (143, ti143), (144, ti144), (145, ti145), (146, ti146), (147, ti147), (148, ti148), (149, ti149), (150, ti150), (151, ti151)]
theorem tts_good : ∀ p ∈ tts, good Try.prog p := by
  intro p hp
  simp only [tts, List.mem_cons, List.not_mem_nil, or_false] at hp
  rcases hp with rfl | rfl | rfl | rfl | rfl | rfl | rfl | rfl | rfl | rfl | rfl | rfl | rfl | rfl | rfl | rfl | rfl | rfl | rfl | rfl | rfl | rfl | rfl | rfl | rfl | rfl | rfl | rfl | rfl | rfl | rfl | rfl | rfl | rfl | rfl | rfl | rfl | rfl | rfl | rfl | rfl | rfl | rfl | rfl | rfl | rfl | rfl | rfl | rfl | rfl | rfl | rfl | rfl | rfl | rfl | rfl | rfl | rfl | rfl | rfl | rfl | rfl | rfl | rfl | rfl | rfl | rfl | rfl | rfl | rfl | rfl | rfl | rfl | rfl | rfl | rfl | rfl | rfl | rfl | rfl | rfl | rfl | rfl | rfl | rfl | rfl | rfl | rfl | rfl | rfl | rfl | rfl | rfl | rfl | rfl | rfl | rfl | rfl | rfl | rfl | rfl | rfl | rfl | rfl | rfl | rfl | rfl | rfl | rfl | rfl | rfl | rfl | rfl | rfl | rfl | rfl | rfl | rfl | rfl | rfl | rfl | rfl | rfl | rfl | rfl | rfl | rfl | rfl | rfl | rfl | rfl | rfl | rfl | rfl | rfl | rfl | rfl | rfl | rfl | rfl | rfl | rfl | rfl
  · exact g1
  · exact g2
  · exact g3
  · exact g4
  · exact g5
  · exact g6
  · exact g7
  · exact g8
  · exact g9
  · exact g10
  · exact g11
  · exact g12
  · exact g13
  · exact g14
  · exact g15
  · exact g16
  · exact g17
  · exact g18
  · exact g19
  · exact g21
  · exact g22
  · exact g23
  · exact g24
  · exact g25
  · exact g26
  · exact g28
  · exact g29
  · exact g31
  · exact g32
  · exact g33
  · exact g34
  · exact g35
  · exact g36
  · exact g37
  · exact g38
  · exact g39
  · exact g40
  · exact g41
  · exact g42
  · exact g43
  · exact g44
  · exact g45
  · exact g46
  · exact g47
  · exact g48
  · exact g49
  · exact g50
  · exact g51
  · exact g52
  · exact g53
  · exact g54
  · exact g55
  · exact g57
  · exact g58
  · exact g59
  · exact g61
  · exact g62
  · exact g63
  · exact g64
  · exact g65
  · exact g67
  · exact g68
  · exact g69
  · exact g70
  · exact g71
  · exact g72
  · exact g73
  · exact g74
  · exact g75
  · exact g76
  · exact g77
  · exact g78
  · exact g79
  · exact g80
  · exact g81
  · exact g82
  · exact g83
  · exact g84
  · exact g85
  · exact g86
  · exact g87
  · exact g88
  · exact g89
  · exact g90
  · exact g91
  · exact g92
  · exact g93
  · exact g94
  · exact g95
  · exact g96
  · exact g98
  · exact g99
  · exact g100
  · exact g101
  · exact g102
  · exact g103
  · exact g104
  · exact g105
  · exact g106
  · exact g108
  · exact g109
  · exact g110
  · exact g111
  · exact g112
  · exact g113
  · exact g114
  · exact g115
  · exact g116
  · exact g117
  · exact g118
  · exact g119
  · exact g120
  · exact g121
  · exact g122
  · exact g123
  · exact g124
  · exact g125
  · exact g126
  · exact g127
  · exact g128
  · exact g129
  · exact g130
  · exact g131
  · exact g132
  · exact g133
  · exact g134
  · exact g135
  · exact g136
  · exact g137
  · exact g138
  · exact g139
  · exact g140
  · exact g141
  · exact g142
  · exact g143
  · exact g144
  · exact g145
  · exact g146
  · exact g147
  · exact g148
  · exact g149
  · exact g150
  · exact g151
set_option maxRecDepth 100000 in
theorem tts_sane : ∀ p ∈ tts, p.2.flds ≠ [(0, 99999)] := by decide
instance : TT Try.prog (lookT tts) := TT.of_list tts_good tts_sane
instance : Mixed Try.prog := ⟨by kernel_rfl⟩
abbrev n_entrepotlaw09_UploadScript : Nat := 3
theorem F_entrepotlaw09_UploadScript : Try.prog.funcs[n_entrepotlaw09_UploadScript]? = some Try.f3 := Try.func3
abbrev n_entrepotlaw09_UploadLoads : Nat := 4
theorem F_entrepotlaw09_UploadLoads : Try.prog.funcs[n_entrepotlaw09_UploadLoads]? = some Try.f4 := Try.func4
abbrev n_entrepotlaw09_UploadNone : Nat := 5
theorem F_entrepotlaw09_UploadNone : Try.prog.funcs[n_entrepotlaw09_UploadNone]? = some Try.f5 := Try.func5
abbrev n_entrepotlaw09_UploadKnown : Nat := 6
theorem F_entrepotlaw09_UploadKnown : Try.prog.funcs[n_entrepotlaw09_UploadKnown]? = some Try.f6 := Try.func6
abbrev n_entrepotlaw09_UploadPieces : Nat := 7
theorem F_entrepotlaw09_UploadPieces : Try.prog.funcs[n_entrepotlaw09_UploadPieces]? = some Try.f7 := Try.func7
abbrev n_entrepotlaw09_UploadResumes : Nat := 8
theorem F_entrepotlaw09_UploadResumes : Try.prog.funcs[n_entrepotlaw09_UploadResumes]? = some Try.f8 := Try.func8
abbrev n_entrepotlaw09_Long : Nat := 9
theorem F_entrepotlaw09_Long : Try.prog.funcs[n_entrepotlaw09_Long]? = some Try.f9 := Try.func9
abbrev n_entrepotlaw09_awake : Nat := 10
theorem F_entrepotlaw09_awake : Try.prog.funcs[n_entrepotlaw09_awake]? = some Try.f10 := Try.func10
abbrev n_upload_New : Nat := 11
theorem F_upload_New : Try.prog.funcs[n_upload_New]? = some Try.f11 := Try.func11
abbrev n_entrepotref09_New : Nat := 12
theorem F_entrepotref09_New : Try.prog.funcs[n_entrepotref09_New]? = some Try.f12 := Try.func12
abbrev n_entrepotlaw09_acted : Nat := 13
theorem F_entrepotlaw09_acted : Try.prog.funcs[n_entrepotlaw09_acted]? = some Try.f13 := Try.func13
abbrev n_p_upload_Table_Next : Nat := 14
theorem F_p_upload_Table_Next : Try.prog.funcs[n_p_upload_Table_Next]? = some Try.f14 := Try.func14
abbrev n_p_upload_Table_List : Nat := 15
theorem F_p_upload_Table_List : Try.prog.funcs[n_p_upload_Table_List]? = some Try.f15 := Try.func15
abbrev n_entrepotkit_SameSessions : Nat := 16
theorem F_entrepotkit_SameSessions : Try.prog.funcs[n_entrepotkit_SameSessions]? = some Try.f16 := Try.func16
abbrev n_p_entrepotref09_Table_List : Nat := 17
theorem F_p_entrepotref09_Table_List : Try.prog.funcs[n_p_entrepotref09_Table_List]? = some Try.f17 := Try.func17
abbrev n_entrepotkit_OverSessions : Nat := 18
theorem F_entrepotkit_OverSessions : Try.prog.funcs[n_entrepotkit_OverSessions]? = some Try.f18 := Try.func18
abbrev n_entrepotkit_CopySessions : Nat := 19
theorem F_entrepotkit_CopySessions : Try.prog.funcs[n_entrepotkit_CopySessions]? = some Try.f19 := Try.func19
abbrev n_upload_Load : Nat := 20
theorem F_upload_Load : Try.prog.funcs[n_upload_Load]? = some Try.f20 := Try.func20
abbrev n_entrepotref09_Load : Nat := 21
theorem F_entrepotref09_Load : Try.prog.funcs[n_entrepotref09_Load]? = some Try.f21 := Try.func21
abbrev n_p_upload_Table_Start : Nat := 22
theorem F_p_upload_Table_Start : Try.prog.funcs[n_p_upload_Table_Start]? = some Try.f22 := Try.func22
abbrev n_p_upload_Table_Write : Nat := 23
theorem F_p_upload_Table_Write : Try.prog.funcs[n_p_upload_Table_Write]? = some Try.f23 := Try.func23
abbrev n_p_upload_Table_Offset : Nat := 24
theorem F_p_upload_Table_Offset : Try.prog.funcs[n_p_upload_Table_Offset]? = some Try.f24 := Try.func24
abbrev n_p_upload_Table_Finish : Nat := 25
theorem F_p_upload_Table_Finish : Try.prog.funcs[n_p_upload_Table_Finish]? = some Try.f25 := Try.func25
abbrev n_entrepotkit_SameSession : Nat := 26
theorem F_entrepotkit_SameSession : Try.prog.funcs[n_entrepotkit_SameSession]? = some Try.f26 := Try.func26
abbrev n_p_upload_Table_Cancel : Nat := 27
theorem F_p_upload_Table_Cancel : Try.prog.funcs[n_p_upload_Table_Cancel]? = some Try.f27 := Try.func27
abbrev n_entrepotlaw09_one : Nat := 28
theorem F_entrepotlaw09_one : Try.prog.funcs[n_entrepotlaw09_one]? = some Try.f28 := Try.func28
abbrev n_sha_Of : Nat := 29
theorem F_sha_Of : Try.prog.funcs[n_sha_Of]? = some Try.f29 := Try.func29
abbrev n_entrepotlaw09_starts : Nat := 30
theorem F_entrepotlaw09_starts : Try.prog.funcs[n_entrepotlaw09_starts]? = some Try.f30 := Try.func30
abbrev n_entrepotkit_Pick : Nat := 31
theorem F_entrepotkit_Pick : Try.prog.funcs[n_entrepotkit_Pick]? = some Try.f31 := Try.func31
abbrev n_entrepotlaw09_writes : Nat := 32
theorem F_entrepotlaw09_writes : Try.prog.funcs[n_entrepotlaw09_writes]? = some Try.f32 := Try.func32
abbrev n_entrepotlaw09_plain : Nat := 33
theorem F_entrepotlaw09_plain : Try.prog.funcs[n_entrepotlaw09_plain]? = some Try.f33 := Try.func33
abbrev n_p_entrepotref09_Table_Start : Nat := 34
theorem F_p_entrepotref09_Table_Start : Try.prog.funcs[n_p_entrepotref09_Table_Start]? = some Try.f34 := Try.func34
abbrev n_entrepotkit_LentBytes : Nat := 35
theorem F_entrepotkit_LentBytes : Try.prog.funcs[n_entrepotkit_LentBytes]? = some Try.f35 := Try.func35
abbrev n_p_entrepotref09_Table_Write : Nat := 36
theorem F_p_entrepotref09_Table_Write : Try.prog.funcs[n_p_entrepotref09_Table_Write]? = some Try.f36 := Try.func36
abbrev n_entrepotkit_KeptBytes : Nat := 37
theorem F_entrepotkit_KeptBytes : Try.prog.funcs[n_entrepotkit_KeptBytes]? = some Try.f37 := Try.func37
abbrev n_entrepotkit_OverBytes : Nat := 38
theorem F_entrepotkit_OverBytes : Try.prog.funcs[n_entrepotkit_OverBytes]? = some Try.f38 := Try.func38
abbrev n_entrepotlaw09_digest : Nat := 39
theorem F_entrepotlaw09_digest : Try.prog.funcs[n_entrepotlaw09_digest]? = some Try.f39 := Try.func39
abbrev n_p_entrepotref09_Table_Finish : Nat := 40
theorem F_p_entrepotref09_Table_Finish : Try.prog.funcs[n_p_entrepotref09_Table_Finish]? = some Try.f40 := Try.func40
abbrev n_p_entrepotref09_Table_Cancel : Nat := 41
theorem F_p_entrepotref09_Table_Cancel : Try.prog.funcs[n_p_entrepotref09_Table_Cancel]? = some Try.f41 := Try.func41
abbrev n_p_entrepotref09_Table_Offset : Nat := 42
theorem F_p_entrepotref09_Table_Offset : Try.prog.funcs[n_p_entrepotref09_Table_Offset]? = some Try.f42 := Try.func42
abbrev n_p_upload_Table_none : Nat := 43
theorem F_p_upload_Table_none : Try.prog.funcs[n_p_upload_Table_none]? = some Try.f43 := Try.func43
abbrev n_p_upload_session_told : Nat := 44
theorem F_p_upload_session_told : Try.prog.funcs[n_p_upload_session_told]? = some Try.f44 := Try.func44
abbrev n_entrepotkit_CopyBytes : Nat := 45
theorem F_entrepotkit_CopyBytes : Try.prog.funcs[n_entrepotkit_CopyBytes]? = some Try.f45 := Try.func45
abbrev n_name_Repo : Nat := 46
theorem F_name_Repo : Try.prog.funcs[n_name_Repo]? = some Try.f46 := Try.func46
abbrev n_slices_Clone_sl_byte_byte : Nat := 47
theorem F_slices_Clone_sl_byte_byte : Try.prog.funcs[n_slices_Clone_sl_byte_byte]? = some Try.f47 := Try.func47
abbrev n_entrepotref03_Repo : Nat := 48
theorem F_entrepotref03_Repo : Try.prog.funcs[n_entrepotref03_Repo]? = some Try.f48 := Try.func48
abbrev n_p_upload_Table_with : Nat := 49
theorem F_p_upload_Table_with : Try.prog.funcs[n_p_upload_Table_with]? = some Try.f49 := Try.func49
abbrev n_p_upload_Table_Write_1 : Nat := 50
theorem F_p_upload_Table_Write_1 : Try.prog.funcs[n_p_upload_Table_Write_1]? = some Try.f50 := Try.func50
abbrev n_p_upload_Table_Write_1_1 : Nat := 51
theorem F_p_upload_Table_Write_1_1 : Try.prog.funcs[n_p_upload_Table_Write_1_1]? = some Try.f51 := Try.func51
abbrev n_p_upload_Table_Offset_1 : Nat := 52
theorem F_p_upload_Table_Offset_1 : Try.prog.funcs[n_p_upload_Table_Offset_1]? = some Try.f52 := Try.func52
abbrev n_p_upload_Table_Finish_1 : Nat := 53
theorem F_p_upload_Table_Finish_1 : Try.prog.funcs[n_p_upload_Table_Finish_1]? = some Try.f53 := Try.func53
abbrev n_slices_Delete_sl_p_upload_session_p_upload_session : Nat := 54
theorem F_slices_Delete_sl_p_upload_session_p_upload_session : Try.prog.funcs[n_slices_Delete_sl_p_upload_session_p_upload_session]? = some Try.f54 := Try.func54
abbrev n_entrepotkit_SameBytes : Nat := 55
theorem F_entrepotkit_SameBytes : Try.prog.funcs[n_entrepotkit_SameBytes]? = some Try.f55 := Try.func55
abbrev n_p_upload_Table_Cancel_1 : Nat := 56
theorem F_p_upload_Table_Cancel_1 : Try.prog.funcs[n_p_upload_Table_Cancel_1]? = some Try.f56 := Try.func56
abbrev n_sha_Cut : Nat := 57
theorem F_sha_Cut : Try.prog.funcs[n_sha_Cut]? = some Try.f57 := Try.func57
abbrev n_sha_Sum : Nat := 58
theorem F_sha_Sum : Try.prog.funcs[n_sha_Sum]? = some Try.f58 := Try.func58
abbrev n_entrepotlaw09_done : Nat := 59
theorem F_entrepotlaw09_done : Try.prog.funcs[n_entrepotlaw09_done]? = some Try.f59 := Try.func59
abbrev n_p_entrepotref09_Table_place : Nat := 60
theorem F_p_entrepotref09_Table_place : Try.prog.funcs[n_p_entrepotref09_Table_place]? = some Try.f60 := Try.func60
abbrev n_entrepotref02_Of : Nat := 61
theorem F_entrepotref02_Of : Try.prog.funcs[n_entrepotref02_Of]? = some Try.f61 := Try.func61
abbrev n_p_entrepotref09_Table_take : Nat := 62
theorem F_p_entrepotref09_Table_take : Try.prog.funcs[n_p_entrepotref09_Table_take]? = some Try.f62 := Try.func62
abbrev n_p_upload_session_bytes : Nat := 63
theorem F_p_upload_session_bytes : Try.prog.funcs[n_p_upload_session_bytes]? = some Try.f63 := Try.func63
abbrev n_name_long : Nat := 64
theorem F_name_long : Try.prog.funcs[n_name_long]? = some Try.f64 := Try.func64
abbrev n_name_run : Nat := 65
theorem F_name_run : Try.prog.funcs[n_name_run]? = some Try.f65 := Try.func65
abbrev n_name_repo_part : Nat := 66
theorem F_name_repo_part : Try.prog.funcs[n_name_repo_part]? = some Try.f66 := Try.func66
abbrev n_entrepotref03_ends : Nat := 67
theorem F_entrepotref03_ends : Try.prog.funcs[n_entrepotref03_ends]? = some Try.f67 := Try.func67
abbrev n_entrepotref03_goes : Nat := 68
theorem F_entrepotref03_goes : Try.prog.funcs[n_entrepotref03_goes]? = some Try.f68 := Try.func68
abbrev n_entrepotref03_low : Nat := 69
theorem F_entrepotref03_low : Try.prog.funcs[n_entrepotref03_low]? = some Try.f69 := Try.func69
abbrev n_p_upload_Table_find : Nat := 70
theorem F_p_upload_Table_find : Try.prog.funcs[n_p_upload_Table_find]? = some Try.f70 := Try.func70
abbrev n_sha_New : Nat := 71
theorem F_sha_New : Try.prog.funcs[n_sha_New]? = some Try.f71 := Try.func71
abbrev n_p_sha_Hash_Write : Nat := 72
theorem F_p_sha_Hash_Write : Try.prog.funcs[n_p_sha_Hash_Write]? = some Try.f72 := Try.func72
abbrev n_p_sha_Hash_Sum : Nat := 73
theorem F_p_sha_Hash_Sum : Try.prog.funcs[n_p_sha_Hash_Sum]? = some Try.f73 := Try.func73
abbrev n_entrepotref02_Cut : Nat := 74
theorem F_entrepotref02_Cut : Try.prog.funcs[n_entrepotref02_Cut]? = some Try.f74 := Try.func74
abbrev n_entrepotref02_Sum : Nat := 75
theorem F_entrepotref02_Sum : Try.prog.funcs[n_entrepotref02_Sum]? = some Try.f75 := Try.func75
abbrev n_p_upload_session_all : Nat := 76
theorem F_p_upload_session_all : Try.prog.funcs[n_p_upload_session_all]? = some Try.f76 := Try.func76
abbrev n_name_repo_word : Nat := 77
theorem F_name_repo_word : Try.prog.funcs[n_name_repo_word]? = some Try.f77 := Try.func77
abbrev n_slices_BinarySearchFunc_sl_p_upload_session_p_upload_session_int : Nat := 78
theorem F_slices_BinarySearchFunc_sl_p_upload_session_p_upload_session_int : Try.prog.funcs[n_slices_BinarySearchFunc_sl_p_upload_session_p_upload_session_int]? = some Try.f78 := Try.func78
abbrev n_p_upload_Table_find_1 : Nat := 79
theorem F_p_upload_Table_find_1 : Try.prog.funcs[n_p_upload_Table_find_1]? = some Try.f79 := Try.func79
abbrev n_cmp_Compare_int : Nat := 80
theorem F_cmp_Compare_int : Try.prog.funcs[n_cmp_Compare_int]? = some Try.f80 := Try.func80
abbrev n_sha_begin : Nat := 81
theorem F_sha_begin : Try.prog.funcs[n_sha_begin]? = some Try.f81 := Try.func81
abbrev n_p_sha_Hash_none : Nat := 82
theorem F_p_sha_Hash_none : Try.prog.funcs[n_p_sha_Hash_none]? = some Try.f82 := Try.func82
abbrev n_p_sha_words_block : Nat := 83
theorem F_p_sha_words_block : Try.prog.funcs[n_p_sha_words_block]? = some Try.f83 := Try.func83
abbrev n_bytes_Clone : Nat := 84
theorem F_bytes_Clone : Try.prog.funcs[n_bytes_Clone]? = some Try.f84 := Try.func84
abbrev n_entrepotref02_block : Nat := 85
theorem F_entrepotref02_block : Try.prog.funcs[n_entrepotref02_block]? = some Try.f85 := Try.func85
abbrev n_p_upload_session_all_1 : Nat := 86
theorem F_p_upload_session_all_1 : Try.prog.funcs[n_p_upload_session_all_1]? = some Try.f86 := Try.func86
abbrev n_name_letter_word : Nat := 87
theorem F_name_letter_word : Try.prog.funcs[n_name_letter_word]? = some Try.f87 := Try.func87
abbrev n_name_repo_inside : Nat := 88
theorem F_name_repo_inside : Try.prog.funcs[n_name_repo_inside]? = some Try.f88 := Try.func88
abbrev n_cmp_isNaN_int : Nat := 89
theorem F_cmp_isNaN_int : Try.prog.funcs[n_cmp_isNaN_int]? = some Try.f89 := Try.func89
abbrev n_sha_keys : Nat := 90
theorem F_sha_keys : Try.prog.funcs[n_sha_keys]? = some Try.f90 := Try.func90
abbrev n_sha_spread : Nat := 91
theorem F_sha_spread : Try.prog.funcs[n_sha_spread]? = some Try.f91 := Try.func91
abbrev n_sha_turned : Nat := 92
theorem F_sha_turned : Try.prog.funcs[n_sha_turned]? = some Try.f92 := Try.func92
abbrev n_entrepotref02_turn : Nat := 93
theorem F_entrepotref02_turn : Try.prog.funcs[n_entrepotref02_turn]? = some Try.f93 := Try.func93
abbrev n_entrepotref02_keys : Nat := 94
theorem F_entrepotref02_keys : Try.prog.funcs[n_entrepotref02_keys]? = some Try.f94 := Try.func94
abbrev n_name_repo_second : Nat := 95
theorem F_name_repo_second : Try.prog.funcs[n_name_repo_second]? = some Try.f95 := Try.func95
abbrev n_name_repo_dashes : Nat := 96
theorem F_name_repo_dashes : Try.prog.funcs[n_name_repo_dashes]? = some Try.f96 := Try.func96
abbrev n_math_bits_RotateLeft32 : Nat := 97
theorem F_math_bits_RotateLeft32 : Try.prog.funcs[n_math_bits_RotateLeft32]? = some Try.f97 := Try.func97
abbrev n_p_internal_abi_Type_Align : Nat := 110
theorem F_p_internal_abi_Type_Align : Try.prog.funcs[n_p_internal_abi_Type_Align]? = some Try.f110 := Try.func110
abbrev n_internal_runtime_maps_unhashableTypeError_Error : Nat := 111
theorem F_internal_runtime_maps_unhashableTypeError_Error : Try.prog.funcs[n_internal_runtime_maps_unhashableTypeError_Error]? = some Try.f111 := Try.func111
abbrev n_internal_runtime_maps_unhashableTypeError_RuntimeError : Nat := 112
theorem F_internal_runtime_maps_unhashableTypeError_RuntimeError : Try.prog.funcs[n_internal_runtime_maps_unhashableTypeError_RuntimeError]? = some Try.f112 := Try.func112
abbrev n_api_Errno_Error : Nat := 113
theorem F_api_Errno_Error : Try.prog.funcs[n_api_Errno_Error]? = some Try.f113 := Try.func113
abbrev n_p_sha_Hash_Len : Nat := 114
theorem F_p_sha_Hash_Len : Try.prog.funcs[n_p_sha_Hash_Len]? = some Try.f114 := Try.func114
abbrev n_name_letter_hex : Nat := 115
theorem F_name_letter_hex : Try.prog.funcs[n_name_letter_hex]? = some Try.f115 := Try.func115
abbrev n_internal_abi_Kind_String : Nat := 116
theorem F_internal_abi_Kind_String : Try.prog.funcs[n_internal_abi_Kind_String]? = some Try.f116 := Try.func116
abbrev t_func : Nat := 1
abbrev t_int64 : Nat := 2
abbrev t_int : Nat := 3
abbrev t_bool : Nat := 4
abbrev t_uint8 : Nat := 5
abbrev t_abi_BoundsErrorCode : Nat := 6
abbrev t_runtime_boundsError : Nat := 8
abbrev t_string : Nat := 9
abbrev t_runtime_errorString : Nat := 10
abbrev t_runtime_plainError : Nat := 11
abbrev t_uintptr : Nat := 12
abbrev t_runtime_errorAddressString : Nat := 14
abbrev t_p_runtime_TypeAssertionError : Nat := 15
abbrev t_p_runtime_PanicNilError : Nat := 16
abbrev t_p_abi_Type : Nat := 17
abbrev t_maps_unhashableTypeError : Nat := 19
abbrev t_int32 : Nat := 21
abbrev t_sl_entrepotlaw09_Act : Nat := 22
abbrev t_func_sl_entrepotlaw09_Act_bool : Nat := 23
abbrev t_func_bool : Nat := 24
abbrev t_p_upload_Table : Nat := 25
abbrev t_api_Errno : Nat := 26
abbrev t_func_int_p_upload_Table_api_Errno : Nat := 28
abbrev t_p_entrepotref09_Table : Nat := 29
abbrev t_func_int_p_entrepotref09_Table_api_Errno : Nat := 31
abbrev t_func_p_upload_Table_p_entrepotref09_Table_entrepotlaw09_Act_bool : Nat := 32
abbrev t_sl_uint8 : Nat := 33
abbrev t_entrepotlaw09_Act : Nat := 35
abbrev t_func_int : Nat := 36
abbrev t_sl_api_Session : Nat := 37
abbrev t_entrepotref09_Table : Nat := 39
abbrev t_func_sl_api_Session : Nat := 40
abbrev t_func_sl_api_Session_sl_api_Session_bool : Nat := 41
abbrev t_func_int_sl_entrepotlaw09_Act_bool : Nat := 43
abbrev t_api_Session : Nat := 45
abbrev t_func_sl_api_Session_sl_api_Session : Nat := 46
abbrev t_func_int_int_sl_api_Session_p_upload_Table_api_Errno : Nat := 47
abbrev t_func_int_int_sl_api_Session_p_entrepotref09_Table_api_Errno : Nat := 48
abbrev t_func_int_int_sl_api_Session_sl_entrepotlaw09_Act_bool : Nat := 49
abbrev t_32_uint8 : Nat := 50
abbrev t_api_ID : Nat := 51
abbrev t_sl_p_upload_session : Nat := 52
abbrev t_upload_Table : Nat := 54
abbrev t_sl_p_upload_Table : Nat := 55
abbrev t_func_string_int_api_Errno : Nat := 57
abbrev t_func_int_int_sl_uint8_int_api_Errno : Nat := 58
abbrev t_func_int_int_api_Errno : Nat := 59
abbrev t_func_int_api_ID_api_Session_api_Errno : Nat := 61
abbrev t_func_api_Session_api_Session_bool : Nat := 62
abbrev t_func_int_api_Errno : Nat := 63
abbrev t_func_int_int_sl_uint8_api_ID_bool : Nat := 64
abbrev t_func_p_upload_Table : Nat := 65
abbrev t_func_sl_uint8_int_api_ID_api_Errno : Nat := 67
abbrev t_func_p_upload_Table_string_int_api_Errno_bool : Nat := 68
abbrev t_sl_int : Nat := 69
abbrev t_func_int_int_int : Nat := 70
abbrev t_func_p_upload_Table_int_int_string_int_api_Errno_bool : Nat := 71
abbrev t_func_sl_uint8_sl_int_int_bool : Nat := 72
abbrev t_func_p_upload_Table_entrepotlaw09_Act_bool_p_upload_Table_bool : Nat := 73
abbrev t_func_sl_entrepotlaw09_Act_int_int_bool : Nat := 74
abbrev t_func_sl_uint8_sl_uint8 : Nat := 75
abbrev t_func_sl_uint8_sl_uint8_bool : Nat := 76
abbrev t_func_sl_uint8 : Nat := 77
abbrev t_func_p_entrepotref09_Table_entrepotlaw09_Act_api_ID : Nat := 78
abbrev t_p_upload_session : Nat := 79
abbrev t_func_api_Session : Nat := 80
abbrev t_api_Fault : Nat := 82
abbrev t_func_string_api_Fault : Nat := 83
abbrev t_sl_sl_uint8 : Nat := 84
abbrev t_upload_session : Nat := 86
abbrev t_func_int_func_int_p_upload_session_api_Errno_api_Errno : Nat := 87
abbrev t_func_int_p_upload_session_api_Errno : Nat := 88
abbrev t_func_sl_p_upload_session_int_int_sl_p_upload_session : Nat := 89
abbrev t_func_api_ID_int_api_ID_api_Errno : Nat := 90
abbrev t_func_sl_uint8_api_ID : Nat := 91
abbrev t_func_p_upload_Table_entrepotlaw09_Act_int_api_Errno : Nat := 92
abbrev t_func_int_int : Nat := 93
abbrev t_p_api_Session : Nat := 94
abbrev t_func_int_api_Session : Nat := 95
abbrev t_func_string_int_api_Fault_bool : Nat := 98
abbrev t_func_string_p_name_state_api_Errno_api_Fault : Nat := 99
abbrev t_p_name_state : Nat := 100
abbrev t_name_repo : Nat := 102
abbrev t_func_p_name_state : Nat := 103
abbrev t_func_api_Errno_int_api_Fault : Nat := 104
abbrev t_func_string_int32_bool : Nat := 105
abbrev t_func_int32_bool : Nat := 106
abbrev t_func_int_int_bool : Nat := 108
abbrev t_p_sha_Hash : Nat := 109
abbrev t_func_p_sha_Hash : Nat := 110
abbrev t_func_sl_uint8_api_Errno : Nat := 111
abbrev t_func_api_ID_api_Errno : Nat := 112
abbrev t_func_func_uint8_bool : Nat := 113
abbrev t_iter_Seq_uint8 : Nat := 114
abbrev t_func_iter_Seq_uint8 : Nat := 115
abbrev t_func_name_letter_p_name_state : Nat := 116
abbrev t_name_state : Nat := 118
abbrev t_name_letter : Nat := 119
abbrev t_func_sl_p_upload_session_int_func_p_upload_session_int_int_int_bool : Nat := 120
abbrev t_func_p_upload_session_int_int : Nat := 121
abbrev t_uint32 : Nat := 122
abbrev t_8_uint32 : Nat := 123
abbrev t_sha_words : Nat := 124
abbrev t_func_sha_words : Nat := 125
abbrev t_sha_Hash : Nat := 127
abbrev t_uint64 : Nat := 128
abbrev t_func_8_uint32_sl_uint8_8_uint32 : Nat := 129
abbrev t_func_uint8_bool : Nat := 130
abbrev t_uint : Nat := 131
abbrev t_func_int_bool : Nat := 132
abbrev t_p_sha_words : Nat := 133
abbrev t_64_uint32 : Nat := 134
abbrev t_func_64_uint32 : Nat := 135
abbrev t_func_sl_uint8_64_uint32 : Nat := 136
abbrev t_func_uint32_int_uint32 : Nat := 137
abbrev t_func_string : Nat := 138
abbrev t_runtime_TypeAssertionError : Nat := 140
abbrev t_0_p_runtime_PanicNilError : Nat := 141
abbrev t_runtime_PanicNilError : Nat := 143
abbrev t_abi_TFlag : Nat := 144
abbrev t_abi_Kind : Nat := 145
abbrev t_func_unsafe_Pointer_unsafe_Pointer_bool : Nat := 146
abbrev t_p_uint8 : Nat := 147
abbrev t_abi_NameOff : Nat := 148
abbrev t_abi_TypeOff : Nat := 149
abbrev t_abi_Type : Nat := 151
abbrev t_unsafe_Pointer : Nat := 152
instance : Bodied Try.prog 3 := bodied_of Try.func3 (by kernel_rfl) rfl -- entrepot/entrepotlaw09.UploadScript
instance : Bodied Try.prog 4 := bodied_of Try.func4 (by kernel_rfl) rfl -- entrepot/entrepotlaw09.UploadLoads
instance : Bodied Try.prog 5 := bodied_of Try.func5 (by kernel_rfl) rfl -- entrepot/entrepotlaw09.UploadNone
instance : Bodied Try.prog 6 := bodied_of Try.func6 (by kernel_rfl) rfl -- entrepot/entrepotlaw09.UploadKnown
instance : Bodied Try.prog 7 := bodied_of Try.func7 (by kernel_rfl) rfl -- entrepot/entrepotlaw09.UploadPieces
instance : Bodied Try.prog 8 := bodied_of Try.func8 (by kernel_rfl) rfl -- entrepot/entrepotlaw09.UploadResumes
instance : Bodied Try.prog 9 := bodied_of Try.func9 (by kernel_rfl) rfl -- entrepot/entrepotlaw09.Long
instance : Bodied Try.prog 10 := bodied_of Try.func10 (by kernel_rfl) rfl -- entrepot/entrepotlaw09.awake
instance : Bodied Try.prog 11 := bodied_of Try.func11 (by kernel_rfl) rfl -- entrepot/upload.New
instance : Bodied Try.prog 12 := bodied_of Try.func12 (by kernel_rfl) rfl -- entrepot/entrepotref09.New
instance : Bodied Try.prog 13 := bodied_of Try.func13 (by kernel_rfl) rfl -- entrepot/entrepotlaw09.acted
instance : Bodied Try.prog 14 := bodied_of Try.func14 (by kernel_rfl) rfl -- (*entrepot/upload.Table).Next
instance : Bodied Try.prog 15 := bodied_of Try.func15 (by kernel_rfl) rfl -- (*entrepot/upload.Table).List
instance : Bodied Try.prog 16 := bodied_of Try.func16 (by kernel_rfl) rfl -- entrepot/entrepotkit.SameSessions
instance : Bodied Try.prog 17 := bodied_of Try.func17 (by kernel_rfl) rfl -- (*entrepot/entrepotref09.Table).List
instance : Bodied Try.prog 18 := bodied_of Try.func18 (by kernel_rfl) rfl -- entrepot/entrepotkit.OverSessions
instance : Bodied Try.prog 19 := bodied_of Try.func19 (by kernel_rfl) rfl -- entrepot/entrepotkit.CopySessions
instance : Bodied Try.prog 20 := bodied_of Try.func20 (by kernel_rfl) rfl -- entrepot/upload.Load
instance : Bodied Try.prog 21 := bodied_of Try.func21 (by kernel_rfl) rfl -- entrepot/entrepotref09.Load
instance : Bodied Try.prog 22 := bodied_of Try.func22 (by kernel_rfl) rfl -- (*entrepot/upload.Table).Start
instance : Bodied Try.prog 23 := bodied_of Try.func23 (by kernel_rfl) rfl -- (*entrepot/upload.Table).Write
instance : Bodied Try.prog 24 := bodied_of Try.func24 (by kernel_rfl) rfl -- (*entrepot/upload.Table).Offset
instance : Bodied Try.prog 25 := bodied_of Try.func25 (by kernel_rfl) rfl -- (*entrepot/upload.Table).Finish
instance : Bodied Try.prog 26 := bodied_of Try.func26 (by kernel_rfl) rfl -- entrepot/entrepotkit.SameSession
instance : Bodied Try.prog 27 := bodied_of Try.func27 (by kernel_rfl) rfl -- (*entrepot/upload.Table).Cancel
instance : Bodied Try.prog 28 := bodied_of Try.func28 (by kernel_rfl) rfl -- entrepot/entrepotlaw09.one
instance : Bodied Try.prog 29 := bodied_of Try.func29 (by kernel_rfl) rfl -- entrepot/sha.Of
instance : Bodied Try.prog 30 := bodied_of Try.func30 (by kernel_rfl) rfl -- entrepot/entrepotlaw09.starts
instance : Bodied Try.prog 31 := bodied_of Try.func31 (by kernel_rfl) rfl -- entrepot/entrepotkit.Pick
instance : Bodied Try.prog 32 := bodied_of Try.func32 (by kernel_rfl) rfl -- entrepot/entrepotlaw09.writes
instance : Bodied Try.prog 33 := bodied_of Try.func33 (by kernel_rfl) rfl -- entrepot/entrepotlaw09.plain
instance : Bodied Try.prog 34 := bodied_of Try.func34 (by kernel_rfl) rfl -- (*entrepot/entrepotref09.Table).Start
instance : Bodied Try.prog 35 := bodied_of Try.func35 (by kernel_rfl) rfl -- entrepot/entrepotkit.LentBytes
instance : Bodied Try.prog 36 := bodied_of Try.func36 (by kernel_rfl) rfl -- (*entrepot/entrepotref09.Table).Write
instance : Bodied Try.prog 37 := bodied_of Try.func37 (by kernel_rfl) rfl -- entrepot/entrepotkit.KeptBytes
instance : Bodied Try.prog 38 := bodied_of Try.func38 (by kernel_rfl) rfl -- entrepot/entrepotkit.OverBytes
instance : Bodied Try.prog 39 := bodied_of Try.func39 (by kernel_rfl) rfl -- entrepot/entrepotlaw09.digest
instance : Bodied Try.prog 40 := bodied_of Try.func40 (by kernel_rfl) rfl -- (*entrepot/entrepotref09.Table).Finish
instance : Bodied Try.prog 41 := bodied_of Try.func41 (by kernel_rfl) rfl -- (*entrepot/entrepotref09.Table).Cancel
instance : Bodied Try.prog 42 := bodied_of Try.func42 (by kernel_rfl) rfl -- (*entrepot/entrepotref09.Table).Offset
instance : Bodied Try.prog 43 := bodied_of Try.func43 (by kernel_rfl) rfl -- (*entrepot/upload.Table).none
instance : Bodied Try.prog 44 := bodied_of Try.func44 (by kernel_rfl) rfl -- (*entrepot/upload.session).told
instance : Bodied Try.prog 45 := bodied_of Try.func45 (by kernel_rfl) rfl -- entrepot/entrepotkit.CopyBytes
instance : Bodied Try.prog 46 := bodied_of Try.func46 (by kernel_rfl) rfl -- entrepot/name.Repo
instance : Bodied Try.prog 47 := bodied_of Try.func47 (by kernel_rfl) rfl -- slices.Clone[[]byte,byte]
instance : Bodied Try.prog 48 := bodied_of Try.func48 (by kernel_rfl) rfl -- entrepot/entrepotref03.Repo
instance : Bodied Try.prog 49 := bodied_of Try.func49 (by kernel_rfl) rfl -- (*entrepot/upload.Table).with
instance : Bodied Try.prog 50 := bodied_of Try.func50 (by kernel_rfl) rfl -- (*entrepot/upload.Table).Write$1
instance : Bodied Try.prog 51 := bodied_of Try.func51 (by kernel_rfl) rfl -- (*entrepot/upload.Table).Write$1$1
instance : Bodied Try.prog 52 := bodied_of Try.func52 (by kernel_rfl) rfl -- (*entrepot/upload.Table).Offset$1
instance : Bodied Try.prog 53 := bodied_of Try.func53 (by kernel_rfl) rfl -- (*entrepot/upload.Table).Finish$1
instance : Bodied Try.prog 54 := bodied_of Try.func54 (by kernel_rfl) rfl -- slices.Delete[[]*entrepot/upload.session,*entrepot/upload.session]
instance : Bodied Try.prog 55 := bodied_of Try.func55 (by kernel_rfl) rfl -- entrepot/entrepotkit.SameBytes
instance : Bodied Try.prog 56 := bodied_of Try.func56 (by kernel_rfl) rfl -- (*entrepot/upload.Table).Cancel$1
instance : Bodied Try.prog 57 := bodied_of Try.func57 (by kernel_rfl) rfl -- entrepot/sha.Cut
instance : Bodied Try.prog 58 := bodied_of Try.func58 (by kernel_rfl) rfl -- entrepot/sha.Sum
instance : Bodied Try.prog 59 := bodied_of Try.func59 (by kernel_rfl) rfl -- entrepot/entrepotlaw09.done
instance : Bodied Try.prog 60 := bodied_of Try.func60 (by kernel_rfl) rfl -- (*entrepot/entrepotref09.Table).place
instance : Bodied Try.prog 61 := bodied_of Try.func61 (by kernel_rfl) rfl -- entrepot/entrepotref02.Of
instance : Bodied Try.prog 62 := bodied_of Try.func62 (by kernel_rfl) rfl -- (*entrepot/entrepotref09.Table).take
instance : Bodied Try.prog 63 := bodied_of Try.func63 (by kernel_rfl) rfl -- (*entrepot/upload.session).bytes
instance : Bodied Try.prog 64 := bodied_of Try.func64 (by kernel_rfl) rfl -- entrepot/name.long
instance : Bodied Try.prog 65 := bodied_of Try.func65 (by kernel_rfl) rfl -- entrepot/name.run
instance : Bodied Try.prog 66 := bodied_of Try.func66 (by kernel_rfl) rfl -- (entrepot/name.repo).part
instance : Bodied Try.prog 67 := bodied_of Try.func67 (by kernel_rfl) rfl -- entrepot/entrepotref03.ends
instance : Bodied Try.prog 68 := bodied_of Try.func68 (by kernel_rfl) rfl -- entrepot/entrepotref03.goes
instance : Bodied Try.prog 69 := bodied_of Try.func69 (by kernel_rfl) rfl -- entrepot/entrepotref03.low
instance : Bodied Try.prog 70 := bodied_of Try.func70 (by kernel_rfl) rfl -- (*entrepot/upload.Table).find
instance : Bodied Try.prog 71 := bodied_of Try.func71 (by kernel_rfl) rfl -- entrepot/sha.New
instance : Bodied Try.prog 72 := bodied_of Try.func72 (by kernel_rfl) rfl -- (*entrepot/sha.Hash).Write
instance : Bodied Try.prog 73 := bodied_of Try.func73 (by kernel_rfl) rfl -- (*entrepot/sha.Hash).Sum
instance : Bodied Try.prog 74 := bodied_of Try.func74 (by kernel_rfl) rfl -- entrepot/entrepotref02.Cut
instance : Bodied Try.prog 75 := bodied_of Try.func75 (by kernel_rfl) rfl -- entrepot/entrepotref02.Sum
instance : Bodied Try.prog 76 := bodied_of Try.func76 (by kernel_rfl) rfl -- (*entrepot/upload.session).all
instance : Bodied Try.prog 77 := bodied_of Try.func77 (by kernel_rfl) rfl -- (entrepot/name.repo).word
instance : Bodied Try.prog 78 := bodied_of Try.func78 (by kernel_rfl) rfl -- slices.BinarySearchFunc[[]*entrepot/upload.session,*entrepot/upload.session,int]
instance : Bodied Try.prog 79 := bodied_of Try.func79 (by kernel_rfl) rfl -- (*entrepot/upload.Table).find$1
instance : Bodied Try.prog 80 := bodied_of Try.func80 (by kernel_rfl) rfl -- cmp.Compare[int]
instance : Bodied Try.prog 81 := bodied_of Try.func81 (by kernel_rfl) rfl -- entrepot/sha.begin
instance : Bodied Try.prog 82 := bodied_of Try.func82 (by kernel_rfl) rfl -- (*entrepot/sha.Hash).none
instance : Bodied Try.prog 83 := bodied_of Try.func83 (by kernel_rfl) rfl -- (*entrepot/sha.words).block
instance : Bodied Try.prog 84 := bodied_of Try.func84 (by kernel_rfl) rfl -- bytes.Clone
instance : Bodied Try.prog 85 := bodied_of Try.func85 (by kernel_rfl) rfl -- entrepot/entrepotref02.block
instance : Bodied Try.prog 86 := bodied_of Try.func86 (by kernel_rfl) rfl -- (*entrepot/upload.session).all$1
instance : Bodied Try.prog 87 := bodied_of Try.func87 (by kernel_rfl) rfl -- (entrepot/name.letter).word
instance : Bodied Try.prog 88 := bodied_of Try.func88 (by kernel_rfl) rfl -- (entrepot/name.repo).inside
instance : Bodied Try.prog 89 := bodied_of Try.func89 (by kernel_rfl) rfl -- cmp.isNaN[int]
instance : Bodied Try.prog 90 := bodied_of Try.func90 (by kernel_rfl) rfl -- entrepot/sha.keys
instance : Bodied Try.prog 91 := bodied_of Try.func91 (by kernel_rfl) rfl -- entrepot/sha.spread
instance : Bodied Try.prog 92 := bodied_of Try.func92 (by kernel_rfl) rfl -- entrepot/sha.turned
instance : Bodied Try.prog 93 := bodied_of Try.func93 (by kernel_rfl) rfl -- entrepot/entrepotref02.turn
instance : Bodied Try.prog 94 := bodied_of Try.func94 (by kernel_rfl) rfl -- entrepot/entrepotref02.keys
instance : Bodied Try.prog 95 := bodied_of Try.func95 (by kernel_rfl) rfl -- (entrepot/name.repo).second
instance : Bodied Try.prog 96 := bodied_of Try.func96 (by kernel_rfl) rfl -- (entrepot/name.repo).dashes
instance : Bodied Try.prog 97 := bodied_of Try.func97 (by kernel_rfl) rfl -- math/bits.RotateLeft32
end Go.Proofs.Ytjfileaidgknjaa
/- Digests, part one: words of 32 bits; how a block's 64 words are spread. Conditions: the bytes may be read. -/
namespace Go.Proofs.Ytjfileaidgknjaa
open Go.Eng Go.RowKit

/-! ## Words -/
def or32 (a b : Int) : Int := bitv .or .u32 a b
def xor32 (a b : Int) : Int := bitv .xor .u32 a b
def and32 (a b : Int) : Int := bitv .and .u32 a b
def add32 (a b : Int) : Int := IntKind.u32.wrap (a + b)
def shl32 (a : Int) (n : Nat) : Int := IntKind.u32.wrap (a * 2 ^ n)
def shr32 (a : Int) (n : Nat) : Int := a.fdiv (2 ^ n)
def rotr (a : Int) (n : Nat) : Int := or32 (shl32 a (32 - n)) (shr32 a n)
theorem or32_comm (a b : Int) : or32 a b = or32 b a := by simp [or32, bitv, BitVec.or_comm]

theorem rot_amount : ∀ n : Fin 32, 1 ≤ n.val → bitv .and .u64 (IntKind.u64.wrap (IntKind.i64.wrap (0 - (n.val : Int)))) 31 = ((32 - n.val : Nat) : Int) := by decide +kernel
theorem rot_back : ∀ n : Fin 32, 1 ≤ n.val → IntKind.u64.wrap (32 - ((32 - n.val : Nat) : Int)) = (n.val : Int) := by decide +kernel

theorem RotateLeft32_spec (x : Int) (n : Nat) (h1 : 1 ≤ n) (h2 : n < 32) (w : World) :
    Calls Try.prog n_math_bits_RotateLeft32 #[.int .u32 x, .int .i64 (IntKind.i64.wrap (0 - (n : Int)))] w fun e w' => e = .returned (.int .u32 (rotr x n)) ∧ w = w' := by
  have ha := rot_amount ⟨n, h2⟩ h1
  have hb := rot_back ⟨n, h2⟩ h1
  dsimp only at ha hb
  refine enter2 F_math_bits_RotateLeft32 rfl rfl ?_
  (refine sr ?_; refine o_p rfl rfl rfl ?_; refine on ?_; refine sr ?_; (iterate 4 refine o_p rfl rfl rfl ?_); refine on ?_; refine sr ?_; (iterate 2 refine o_p rfl rfl rfl ?_))
  rw [ha]
  skip
  refine o_c rfl rfl rfl (by omega) ?_
  ((iterate 3 refine o_p rfl rfl rfl ?_))
  rw [hb]
  refine o_c rfl rfl rfl (by omega) ?_
  ((iterate 2 refine o_p rfl rfl rfl ?_); refine on ?_)
  refine cw_ret (pn_ret rfl rfl ⟨?_, rfl⟩)
  have e1 : min ((32 - n : Nat) : Int).toNat 32 = 32 - n := by omega
  have e2 : min (n : Int).toNat 32 = n := by omega
  simp only [rotr, or32, shl32, shr32, IntKind.bits, e1, e2]

theorem turned_spec (x : Int) (n : Nat) (h1 : 1 ≤ n) (h2 : n < 32) (w : World) :
    Calls Try.prog n_sha_turned #[.int .u32 x, .int .i64 (n : Int)] w fun e w' => e = .returned (.int .u32 (rotr x n)) ∧ w = w' := by
  refine enter2 F_sha_turned rfl rfl ?_
  (refine sr ?_; refine o_p rfl rfl rfl ?_; refine on ?_; refine sr ?_; (iterate 3 refine o_p rfl rfl rfl ?_))
  refine ow_call rfl (ec_call rfl) rfl ((RotateLeft32_spec x n h1 h2 w).mono ?_)
  rintro _ _ ⟨rfl, rfl⟩; refine ⟨_, rfl, ?_⟩
  (refine o_p rfl rfl rfl ?_; refine on ?_)
  exact cw_ret (pn_ret rfl rfl ⟨rfl, rfl⟩)

theorem turn_spec (x : Int) (n : Nat) (h1 : 1 ≤ n) (h2 : n < 32) (w : World) :
    Calls Try.prog n_entrepotref02_turn #[.int .u32 x, .int .i64 (n : Int)] w fun e w' => e = .returned (.int .u32 (rotr x n)) ∧ Ext w w' := by
  refine enter2 F_entrepotref02_turn rfl rfl ?_
  refine (cw_seq (cw_region ?_))
  (refine o_p rfl rfl rfl ?_)
  refine (ow_nil (pn_then (cw_seq (cw_draw flo (fun W' => Ext w W') (by decide) (Fr.drew _) ?_))))
  ((iterate 2 refine d_p rfl rfl rfl rfl ?_); refine d_c rfl rfl rfl rfl (by (show (0 : Int) ≤ _; omega)) ?_; (iterate 2 refine d_p rfl rfl rfl rfl ?_); refine d_c rfl rfl rfl rfl (by (unfold I64; omega)) ?_; refine d_c rfl rfl rfl rfl (by (show (0 : Int) ≤ _; omega)) ?_; (iterate 2 refine d_p rfl rfl rfl rfl ?_))
  refine (dw_nil (pn_then (cw_ret (pn_ret rfl rfl ⟨?_, Fr.drew _⟩))))
  have e1 : min (32 - (n : Int)).toNat 32 = 32 - n := by omega
  have e2 : min (n : Int).toNat 32 = n := by omega
  rw [rotr, or32_comm]
  simp only [or32, shl32, shr32, IntKind.bits, e1, e2]

/-! ## A block's words -/
def byteL (b : List Int) (i : Nat) : Int := b.getD i 0
def packW (b : List Int) (i : Nat) : Int :=
  or32 (or32 (or32 (shl32 (IntKind.u32.wrap (byteL b (4 * i))) 24) (shl32 (IntKind.u32.wrap (byteL b (4 * i + 1))) 16)) (shl32 (IntKind.u32.wrap (byteL b (4 * i + 2))) 8)) (IntKind.u32.wrap (byteL b (4 * i + 3)))
def sig0 (x : Int) : Int := xor32 (xor32 (rotr x 7) (rotr x 18)) (shr32 x 3)
def sig1 (x : Int) : Int := xor32 (xor32 (rotr x 17) (rotr x 19)) (shr32 x 10)
def wNext (b W : List Int) (i : Nat) : Int :=
  if i < 16 then packW b i else add32 (add32 (add32 (W.getD (i - 16) 0) (sig0 (W.getD (i - 15) 0))) (W.getD (i - 7) 0)) (sig1 (W.getD (i - 2) 0))
def schedL (b : List Int) : Nat → List Int
  | 0 => []
  | i + 1 => schedL b i ++ [wNext b (schedL b i) i]
theorem sched_len (b : List Int) (i : Nat) : (schedL b i).length = i := by
  induction i with
  | zero => rfl
  | succ i ih => simp [schedL, ih]
def u32s (l : List Int) : List Value := l.map (Value.int .u32)
def wCells (b : List Int) (i : Nat) : List Value := u32s (schedL b i) ++ List.replicate (64 - i) (.int .u32 0)
theorem wCells_len (b : List Int) (i : Nat) (h : i ≤ 64) : (wCells b i).length = 64 := by simp [wCells, u32s, sched_len]; omega
theorem wCells_get (b : List Int) (i j : Nat) (h : j < i) : (wCells b i)[j]? = some (.int .u32 ((schedL b i).getD j 0)) := by
  have hl := sched_len b i
  rw [wCells, List.getElem?_append_left (by simp [u32s, hl]; omega)]
  simp only [u32s, List.getElem?_map, List.getD_eq_getElem?_getD]
  rw [List.getElem?_eq_getElem (by omega)]
  rfl
theorem wCells_set (b : List Int) (i : Nat) (h : i < 64) : (wCells b i).set i (.int .u32 (wNext b (schedL b i) i)) = wCells b (i + 1) := by
  have hl := sched_len b i
  unfold wCells
  rw [List.set_append_right _ _ (by simp [u32s, hl])]
  have e : 64 - i = (64 - (i + 1)) + 1 := by omega
  rw [e, List.replicate_succ]
  simp [u32s, schedL, hl]

theorem spread_spec {vb : Value} {b : List Int} {w : World} (hb : VL (Value.int .u8) w vb b) (hl : 64 ≤ b.length) :
    Calls Try.prog n_sha_spread #[vb] w fun e w' => e = .returned (.agg (u32s (schedL b 64)).toArray) ∧ Ext w w' := by
  obtain ⟨A, c, rfl, hnc, hcm, hz, hcell⟩ := hb.op
  refine enter1 F_sha_spread rfl rfl ?_
  refine (cw_seq (cw_region ?_))
  refine ow_new rfl rfl rfl rfl ?_
  intro w1 B1 e1 z1
  change Blk w1 w.heap.size t_64_uint32 (wCells b 0) at B1
  (refine on ?_; refine ss ?_; refine sr ?_; refine o_p rfl rfl rfl ?_; refine on ?_)
  refine cw_block (cw_loop (G := Nat) (fun i => [(0, .slice A b.length c), (2, .pointer (some ⟨w.heap.size, 0, none⟩)), (6, .int .i64 (i : Int))]) (fun i W => Ext w W ∧ Blk W w.heap.size t_64_uint32 (wCells b i) ∧ i ≤ 64) (fun i => 64 - i) ?_ ?_)
  · exact ⟨0, ⟨rfl, rfl, rfl, trivial⟩, e1, B1, by omega⟩
  rintro i W ⟨hE, B, hi⟩
  try dsimp only
  (refine sr ?_; refine o_p rfl rfl rfl ?_; refine on ?_)
  refine (cw_seq (cw_if rfl (fun h => ?_) (fun h => ?_)))
  · obtain ⟨bk, off, rfl, hbk, hc⟩ := hcell 0 (by omega)
    have hE' : Ext w W.drew := hE.trans (Fr.drew _)
    have hlen := wCells_len b i (by omega)
    refine (cw_skip (pn_then (cw_seq (cw_block (cw_seq (cw_region ?_))))))
    ((iterate 2 refine o_p rfl rfl rfl ?_); refine on ?_; refine ss ?_; refine sr ?_; (iterate 2 refine o_p rfl rfl rfl ?_); refine on ?_)
    have h0 : ∀ j : Nat, 0 + j = j := fun j => Nat.zero_add j
    have hex : ∃ u, (wCells b i)[i]? = some u := ⟨_, List.getElem?_eq_getElem (by omega)⟩
    obtain ⟨u, hu⟩ := hex
    have hst : ∀ W', Blk W' w.heap.size t_64_uint32 (wCells b i) → W'.cell? ⟨w.heap.size, 0 + i, none⟩ = some u ∧ W'.frozen? ⟨w.heap.size, 0 + i, none⟩ = false := by
      intro W' h; rw [h0]; exact ⟨(h.cell i).trans hu, h.frozen i⟩
    refine cw_if rfl (fun h2 => ?_) (fun h2 => ?_)
    · have Bd := B.ext (Fr.drew W)
      have hbyte : ∀ j, j < 4 → W.drew.cell? ⟨bk, off + (4 * i + j), none⟩ = some (.int .u8 (byteL b (4 * i + j))) := by
        intro j hj
        have := hE'.cell (hc (4 * i + j) (by omega))
        rw [this, byteL, List.getD_eq_getElem?_getD, List.getElem?_eq_getElem (by omega)]
        rfl
      refine (cw_seq (cw_draw flo (fun W' => ∀ j, j < 4 → W'.cell? ⟨bk, off + (4 * i + j), none⟩ = some (.int .u8 (byteL b (4 * i + j)))) (by decide +kernel) hbyte ?_))
      ((iterate 3 refine d_p rfl rfl rfl rfl ?_); refine d_c rfl rfl rfl rfl (by (unfold I64; omega)) ?_)
      refine d_ix (4 * i + 0) rfl rfl rfl rfl (by omega) (by omega) ?_
      refine dw_rd rfl rfl (fun W' hW' => ex_load rfl rfl rfl (hW' 0 (by omega))) rfl ?_
      (refine d_p rfl rfl rfl rfl ?_; refine d_c rfl rfl rfl rfl (by (show (0 : Int) ≤ _; omega)) ?_; (iterate 2 refine d_p rfl rfl rfl rfl ?_); (iterate 2 refine d_c rfl rfl rfl rfl (by (unfold I64; omega)) ?_))
      refine d_ix (4 * i + 1) rfl rfl rfl rfl (by omega) (by omega) ?_
      refine dw_rd rfl rfl (fun W' hW' => ex_load rfl rfl rfl (hW' 1 (by omega))) rfl ?_
      (refine d_p rfl rfl rfl rfl ?_; refine d_c rfl rfl rfl rfl (by (show (0 : Int) ≤ _; omega)) ?_; (iterate 3 refine d_p rfl rfl rfl rfl ?_); (iterate 2 refine d_c rfl rfl rfl rfl (by (unfold I64; omega)) ?_))
      refine d_ix (4 * i + 2) rfl rfl rfl rfl (by omega) (by omega) ?_
      refine dw_rd rfl rfl (fun W' hW' => ex_load rfl rfl rfl (hW' 2 (by omega))) rfl ?_
      (refine d_p rfl rfl rfl rfl ?_; refine d_c rfl rfl rfl rfl (by (show (0 : Int) ≤ _; omega)) ?_; (iterate 3 refine d_p rfl rfl rfl rfl ?_); (iterate 2 refine d_c rfl rfl rfl rfl (by (unfold I64; omega)) ?_))
      refine d_ix (4 * i + 3) rfl rfl rfl rfl (by omega) (by omega) ?_
      refine dw_rd rfl rfl (fun W' hW' => ex_load rfl rfl rfl (hW' 3 (by omega))) rfl ?_
      ((iterate 2 refine d_p rfl rfl rfl rfl ?_))
      refine d_ix (i) rfl rfl rfl rfl (by omega) (by omega) ?_
      refine dw_eu rfl rfl (eu_store rfl rfl rfl rfl rfl (hst _ Bd).1 (hst _ Bd).2) ?_ ?_
      · intro j hj
        have hne := hE.size
        have hbl := hbk
        exact (Fr.cell' (Fr.setCell _ _ _) (hbyte j hj) (by simp; omega))
      refine (dw_nil (pn_then (cw_exit (pn_then_exit (pn_block_exit (pn_then (cw_region ?_)))))))
      refine o_c rfl rfl rfl (by unfold I64; omega) ?_
      (refine o_p rfl rfl rfl ?_)
      have hn : wNext b (schedL b i) i = packW b i := if_pos (by omega)
      have Bs := Bd.set i (.int .u32 (wNext b (schedL b i) i))
      rw [wCells_set b i (by omega), hn] at Bs
      have hzz : 0 + mulz i 1 = i := by rw [mulz_eq]; omega
      refine (ow_nil (pn_round (i + 1) ?_ ?_ ?_))
      · exact ⟨rfl, rfl, rfl, trivial⟩
      · refine ⟨hE'.trans' (Fr.setCell _ _ _) (fun j hj h => by simp at h; omega), ?_, by omega⟩
        rw [hzz]
        exact Bs
      · show 64 - (i + 1) < 64 - i; omega
    · have h2' : 16 ≤ i := by omega
      have Bd := B.ext (Fr.drew W)
      have hS : ∀ j, j < i → W.drew.cell? ⟨w.heap.size, 0 + j, none⟩ = some (.int .u32 ((schedL b i).getD j 0)) := fun j hj => by
        rw [h0]; exact (Bd.cell j).trans (wCells_get b i j hj)
      have hS2 : ∀ j, j < i → W.drew.drew.cell? ⟨w.heap.size, 0 + j, none⟩ = some (.int .u32 ((schedL b i).getD j 0)) := fun j hj => Ext.cell (Fr.drew _) (hS j hj)
      have hS3 : ∀ j, j < i → W.drew.drew.drew.cell? ⟨w.heap.size, 0 + j, none⟩ = some (.int .u32 ((schedL b i).getD j 0)) := fun j hj => Ext.cell (Fr.drew _) (hS2 j hj)
      refine (cw_skip (pn_then (cw_seq (cw_draw flo (fun W' => ∀ j, j < i → W'.cell? ⟨w.heap.size, 0 + j, none⟩ = some (.int .u32 ((schedL b i).getD j 0))) (by decide +kernel) hS ?_))))
      (refine d_p rfl rfl rfl rfl ?_; refine d_c rfl rfl rfl rfl (by (unfold I64; omega)) ?_)
      refine d_ix (i - 15) rfl rfl rfl rfl (by omega) (by omega) ?_
      refine dw_rd rfl rfl (fun W' hW' => ex_load rfl rfl rfl (hW' (i - 15) (by omega))) rfl ?_
      refine dw_call rfl rfl (ec_call rfl) rfl ((turned_spec _ 7 (by decide) (by decide) _).mono ?_)
      rintro _ _ ⟨rfl, rfl⟩; refine ⟨_, rfl, hS, ?_⟩
      (refine d_p rfl rfl rfl rfl ?_; refine d_c rfl rfl rfl rfl (by (unfold I64; omega)) ?_)
      refine d_ix (i - 15) rfl rfl rfl rfl (by omega) (by omega) ?_
      refine dw_rd rfl rfl (fun W' hW' => ex_load rfl rfl rfl (hW' (i - 15) (by omega))) rfl ?_
      refine dw_call rfl rfl (ec_call rfl) rfl ((turned_spec _ 18 (by decide) (by decide) _).mono ?_)
      rintro _ _ ⟨rfl, rfl⟩; refine ⟨_, rfl, hS, ?_⟩
      ((iterate 2 refine d_p rfl rfl rfl rfl ?_); refine d_c rfl rfl rfl rfl (by (unfold I64; omega)) ?_)
      refine d_ix (i - 15) rfl rfl rfl rfl (by omega) (by omega) ?_
      refine dw_rd rfl rfl (fun W' hW' => ex_load rfl rfl rfl (hW' (i - 15) (by omega))) rfl ?_
      (refine d_c rfl rfl rfl rfl (by (show (0 : Int) ≤ _; omega)) ?_; (iterate 2 refine d_p rfl rfl rfl rfl ?_))
      refine (dw_nil (pn_then (cw_seq (cw_draw flo (fun W' => ∀ j, j < i → W'.cell? ⟨w.heap.size, 0 + j, none⟩ = some (.int .u32 ((schedL b i).getD j 0))) (by decide +kernel) hS2 ?_))))
      (refine d_p rfl rfl rfl rfl ?_; refine d_c rfl rfl rfl rfl (by (unfold I64; omega)) ?_)
      refine d_ix (i - 2) rfl rfl rfl rfl (by omega) (by omega) ?_
      refine dw_rd rfl rfl (fun W' hW' => ex_load rfl rfl rfl (hW' (i - 2) (by omega))) rfl ?_
      refine dw_call rfl rfl (ec_call rfl) rfl ((turned_spec _ 17 (by decide) (by decide) _).mono ?_)
      rintro _ _ ⟨rfl, rfl⟩; refine ⟨_, rfl, hS2, ?_⟩
      (refine d_p rfl rfl rfl rfl ?_; refine d_c rfl rfl rfl rfl (by (unfold I64; omega)) ?_)
      refine d_ix (i - 2) rfl rfl rfl rfl (by omega) (by omega) ?_
      refine dw_rd rfl rfl (fun W' hW' => ex_load rfl rfl rfl (hW' (i - 2) (by omega))) rfl ?_
      refine dw_call rfl rfl (ec_call rfl) rfl ((turned_spec _ 19 (by decide) (by decide) _).mono ?_)
      rintro _ _ ⟨rfl, rfl⟩; refine ⟨_, rfl, hS2, ?_⟩
      ((iterate 2 refine d_p rfl rfl rfl rfl ?_); refine d_c rfl rfl rfl rfl (by (unfold I64; omega)) ?_)
      refine d_ix (i - 2) rfl rfl rfl rfl (by omega) (by omega) ?_
      refine dw_rd rfl rfl (fun W' hW' => ex_load rfl rfl rfl (hW' (i - 2) (by omega))) rfl ?_
      (refine d_c rfl rfl rfl rfl (by (show (0 : Int) ≤ _; omega)) ?_; (iterate 2 refine d_p rfl rfl rfl rfl ?_))
      refine (dw_nil (pn_then (cw_draw flo (fun W' => ∀ j, j < i → W'.cell? ⟨w.heap.size, 0 + j, none⟩ = some (.int .u32 ((schedL b i).getD j 0))) (by decide +kernel) hS3 ?_)))
      ((iterate 2 refine d_p rfl rfl rfl rfl ?_); refine d_c rfl rfl rfl rfl (by (unfold I64; omega)) ?_)
      refine d_ix (i - 16) rfl rfl rfl rfl (by omega) (by omega) ?_
      refine dw_rd rfl rfl (fun W' hW' => ex_load rfl rfl rfl (hW' (i - 16) (by omega))) rfl ?_
      ((iterate 3 refine d_p rfl rfl rfl rfl ?_); refine d_c rfl rfl rfl rfl (by (unfold I64; omega)) ?_)
      refine d_ix (i - 7) rfl rfl rfl rfl (by omega) (by omega) ?_
      refine dw_rd rfl rfl (fun W' hW' => ex_load rfl rfl rfl (hW' (i - 7) (by omega))) rfl ?_
      ((iterate 3 refine d_p rfl rfl rfl rfl ?_))
      refine d_ix (i) rfl rfl rfl rfl (by omega) (by omega) ?_
      have B3 := (Bd.ext (Fr.drew _)).ext (Fr.drew W.drew.drew)
      have hE3 : Ext w W.drew.drew.drew := (hE'.trans (Fr.drew _)).trans (Fr.drew _)
      refine dw_eu rfl rfl (eu_store rfl rfl rfl rfl rfl (hst _ B3).1 (hst _ B3).2) ?_ ?_
      · intro j hj
        have hne : (⟨w.heap.size, 0 + j, none⟩ : Addr) ≠ ⟨w.heap.size, 0 + mulz i 1, none⟩ := by rw [mulz_eq]; simp <;> omega
        rw [World.cell?_setCell_other _ _ _ _ hne.symm]
        exact hS3 j hj
      have hn : wNext b (schedL b i) i = add32 (add32 (add32 ((schedL b i).getD (i - 16) 0) (sig0 ((schedL b i).getD (i - 15) 0))) ((schedL b i).getD (i - 7) 0)) (sig1 ((schedL b i).getD (i - 2) 0)) := if_neg (by omega)
      have Bs := B3.set i (.int .u32 (wNext b (schedL b i) i))
      rw [wCells_set b i (by omega), hn] at Bs
      have hzz : 0 + mulz i 1 = i := by rw [mulz_eq]; omega
      refine (dw_nil (pn_block (pn_then (cw_region ?_))))
      refine o_c rfl rfl rfl (by unfold I64; omega) ?_
      (refine o_p rfl rfl rfl ?_)
      refine (ow_nil (pn_round (i + 1) ?_ ?_ ?_))
      · exact ⟨rfl, rfl, rfl, trivial⟩
      · refine ⟨hE3.trans' (Fr.setCell _ _ _) (fun j hj h => by simp at h; omega), ?_, by omega⟩
        rw [hzz]
        exact Bs
      · show 64 - (i + 1) < 64 - i; omega
  · refine (cw_exit (pn_then_exit (pn_loop_exit (pn_block_exit (pn_then (cw_seq (cw_region ?_)))))))
    obtain rfl : i = 64 := by omega
    have hlen := wCells_len b 64 (by omega)
    have hW : wCells b 64 = u32s (schedL b 64) := by simp [wCells]
    rw [hW] at B hlen
    generalize schedL b 64 = X at *
    refine ow_ex rfl (ex_loadN (cs := u32s X) rfl rfl rfl hlen (fun j _ => by rw [Nat.zero_add]; exact B.cell j)) rfl ?_
    refine ow_eu rfl (eu_storeB (vs := u32s X) rfl rfl rfl rfl (by rw [hlen]; rfl) (by intro u hu; obtain ⟨x, _, rfl⟩ := List.mem_map.1 hu; rfl) B (Nat.ble_eq_true_of_le (by omega))) ?_
    have Bf := B.setRow (ds := spl (u32s X) 0 (u32s X))
    have hspl : spl (u32s X) 0 (u32s X) = u32s X := by simp [spl]
    rw [hspl] at Bf
    rw [hspl]
    refine (ow_nil (pn_then (cw_ret (pn_retC rfl rfl rfl rfl (by rw [hlen]; rfl) Bf ⟨rfl, ?_⟩))))
    exact hE.trans' (Fr.setRow _ _ _) (fun j hj h => by omega)
end Go.Proofs.Ytjfileaidgknjaa
/- Digests, part two: a block is taken in. Conditions: the bytes may be read. -/
namespace Go.Proofs.Ytjfileaidgknjaa
open Go.Eng Go.RowKit

def keyL : List Int := [
  0x428a2f98, 0x71374491, 0xb5c0fbcf, 0xe9b5dba5, 0x3956c25b, 0x59f111f1, 0x923f82a4, 0xab1c5ed5,
  0xd807aa98, 0x12835b01, 0x243185be, 0x550c7dc3, 0x72be5d74, 0x80deb1fe, 0x9bdc06a7, 0xc19bf174,
  0xe49b69c1, 0xefbe4786, 0x0fc19dc6, 0x240ca1cc, 0x2de92c6f, 0x4a7484aa, 0x5cb0a9dc, 0x76f988da,
  0x983e5152, 0xa831c66d, 0xb00327c8, 0xbf597fc7, 0xc6e00bf3, 0xd5a79147, 0x06ca6351, 0x14292967,
  0x27b70a85, 0x2e1b2138, 0x4d2c6dfc, 0x53380d13, 0x650a7354, 0x766a0abb, 0x81c2c92e, 0x92722c85,
  0xa2bfe8a1, 0xa81a664b, 0xc24b8b70, 0xc76c51a3, 0xd192e819, 0xd6990624, 0xf40e3585, 0x106aa070,
  0x19a4c116, 0x1e376c08, 0x2748774c, 0x34b0bcb5, 0x391c0cb3, 0x4ed8aa4a, 0x5b9cca4f, 0x682e6ff3,
  0x748f82ee, 0x78a5636f, 0x84c87814, 0x8cc70208, 0x90befffa, 0xa4506ceb, 0xbef9a3f7, 0xc67178f2]
def beginL : List Int := [0x6a09e667, 0xbb67ae85, 0x3c6ef372, 0xa54ff53a, 0x510e527f, 0x9b05688c, 0x1f83d9ab, 0x5be0cd19]

theorem u32s_one (l : List Int) : ∀ u ∈ u32s l, u.oneCell' = true := by intro u hu; obtain ⟨x, _, rfl⟩ := List.mem_map.1 hu; rfl
theorem u32s_len (l : List Int) : (u32s l).length = l.length := by simp [u32s]
theorem u32s_get (l : List Int) (i : Nat) (h : i < l.length) : (u32s l)[i]? = some (.int .u32 (l.getD i 0)) := by
  simp only [u32s, List.getElem?_map, List.getD_eq_getElem?_getD]
  rw [List.getElem?_eq_getElem h]; rfl
theorem spl_whole (cs vs : List Value) (h : vs.length = cs.length) : spl cs 0 vs = vs := by simp [spl, h]

set_option maxRecDepth 20000 in
theorem keys_spec (w : World) : Calls Try.prog n_sha_keys #[] w fun e w' => e = .returned (.agg (u32s keyL).toArray) ∧ Ext w w' := by
  refine enter0 F_sha_keys rfl rfl ?_
  refine (cw_seq (cw_region ?_))
  refine ow_new rfl rfl rfl rfl ?_
  intro w1 B1 e1 z1
  change Blk w1 w.heap.size t_64_uint32 (u32s (List.replicate 64 0)) at B1
  refine on (sr ?_)
  refine ow_pu (v := .agg ⟨u32s keyL⟩) rfl (pevb_sound (by kernel_rfl)) rfl ?_
  refine ow_eu rfl (eu_storeW (vs := u32s keyL) rfl rfl rfl rfl rfl (u32s_one _) B1 rfl) ?_
  exact (ow_nil (pn_then (cw_ret (pn_retC rfl rfl rfl rfl rfl (B1.setRow (ds := u32s keyL)) ⟨rfl, e1.trans' (Fr.setRow _ _ _) (fun j hj h => by omega)⟩))))
set_option maxRecDepth 20000 in
theorem refkeys_spec (w : World) : Calls Try.prog n_entrepotref02_keys #[] w fun e w' => e = .returned (.agg (u32s keyL).toArray) ∧ Ext w w' := by
  refine enter0 F_entrepotref02_keys rfl rfl ?_
  refine (cw_seq (cw_region ?_))
  refine ow_new rfl rfl rfl rfl ?_
  intro w1 B1 e1 z1
  change Blk w1 w.heap.size t_64_uint32 (u32s (List.replicate 64 0)) at B1
  refine on (sr ?_)
  refine ow_pu (v := .agg ⟨u32s keyL⟩) rfl (pevb_sound (by kernel_rfl)) rfl ?_
  refine ow_eu rfl (eu_storeW (vs := u32s keyL) rfl rfl rfl rfl rfl (u32s_one _) B1 rfl) ?_
  exact (ow_nil (pn_then (cw_ret (pn_retC rfl rfl rfl rfl rfl (B1.setRow (ds := u32s keyL)) ⟨rfl, e1.trans' (Fr.setRow _ _ _) (fun j hj h => by omega)⟩))))
theorem begin_spec (w : World) : Calls Try.prog n_sha_begin #[] w fun e w' => e = .returned (.agg (u32s beginL).toArray) ∧ Ext w w' := by
  refine enter0 F_sha_begin rfl rfl ?_
  refine (cw_seq (cw_region ?_))
  refine ow_new rfl rfl rfl rfl ?_
  intro w1 B1 e1 z1
  change Blk w1 w.heap.size t_sha_words (u32s (List.replicate 8 0)) at B1
  refine on (sr ?_)
  refine ow_pu (v := .agg ⟨u32s beginL⟩) rfl (pevb_sound (by kernel_rfl)) rfl ?_
  refine ow_eu rfl (eu_storeW (vs := u32s beginL) rfl rfl rfl rfl rfl (u32s_one _) B1 rfl) ?_
  exact (ow_nil (pn_then (cw_ret (pn_retC rfl rfl rfl rfl rfl (B1.setRow (ds := u32s beginL)) ⟨rfl, e1.trans' (Fr.setRow _ _ _) (fun j hj h => by omega)⟩))))

/-! ## Rounds -/
structure W8 where
  a : Int
  b : Int
  c : Int
  d : Int
  e : Int
  f : Int
  g : Int
  h : Int
def W8.l (s : W8) : List Int := [s.a, s.b, s.c, s.d, s.e, s.f, s.g, s.h]
def rndX (s : W8) (k x : Int) : Int := add32 (add32 (add32 (add32 s.h (xor32 (xor32 (rotr s.e 6) (rotr s.e 11)) (rotr s.e 25))) (xor32 (and32 s.e s.f) (and32 (cpl .u32 s.e) s.g))) k) x
def rndY (s : W8) : Int := add32 (xor32 (xor32 (rotr s.a 2) (rotr s.a 13)) (rotr s.a 22)) (xor32 (xor32 (and32 s.a s.b) (and32 s.a s.c)) (and32 s.b s.c))
def rnd (s : W8) (k x : Int) : W8 := ⟨add32 (rndX s k x) (rndY s), s.a, s.b, s.c, add32 s.d (rndX s k x), s.e, s.f, s.g⟩
def rnds (s : W8) (K X : List Int) : Nat → W8
  | 0 => s
  | n + 1 => rnd (rnds s K X n) (K.getD n 0) (X.getD n 0)
def upd (A C : List Int) (i : Nat) : List Int := (List.range 8).map fun j => if j < i then add32 (A.getD j 0) (C.getD j 0) else A.getD j 0
theorem upd_len (A C : List Int) (i : Nat) : (upd A C i).length = 8 := by simp [upd]
theorem upd_get (A C : List Int) (i j : Nat) (h : j < 8) : (upd A C i).getD j 0 = if j < i then add32 (A.getD j 0) (C.getD j 0) else A.getD j 0 := by
  rw [List.getD_eq_getElem?_getD, List.getElem?_eq_getElem (by rw [upd_len]; exact h)]; simp [upd]
theorem upd_set (A C : List Int) (i : Nat) (h : i < 8) : (upd A C i).set i (add32 (A.getD i 0) (C.getD i 0)) = upd A C (i + 1) := by
  apply List.ext_getElem
  · simp [upd_len]
  · intro j h1 h2
    rw [List.getElem_set]
    simp only [upd, List.getElem_map, List.getElem_range]
    split
    · rename_i e; subst e; rw [if_pos (by omega)]
    · rename_i e
      by_cases hj : j < i
      · rw [if_pos hj, if_pos (by omega)]
      · rw [if_neg hj, if_neg (by omega)]
theorem upd_zero (A C : List Int) (h : A.length = 8) : upd A C 0 = A := by
  apply List.ext_getElem
  · rw [upd_len, h]
  · intro j h1 h2
    simp [upd, List.getElem?_eq_getElem h2]
def toW (l : List Int) : W8 := ⟨l.getD 0 0, l.getD 1 0, l.getD 2 0, l.getD 3 0, l.getD 4 0, l.getD 5 0, l.getD 6 0, l.getD 7 0⟩
theorem toW_l (l : List Int) (h : l.length = 8) : (toW l).l = l := by
  match l, h with
  | [_, _, _, _, _, _, _, _], _ => rfl
/-- A block is taken in. -/
def blockM (A b : List Int) : List Int := upd A (rnds (toW A) keyL (schedL b 64) 64).l 8
theorem blockM_len (A b : List Int) : (blockM A b).length = 8 := upd_len _ _ _
end Go.Proofs.Ytjfileaidgknjaa
/- Digests, part three: the walk of the block. Conditions: the bytes may be read; the words lie at the head of a block. -/
namespace Go.Proofs.Ytjfileaidgknjaa
open Go.Eng Go.RowKit

theorem dw_sub {P : Program} {fl : Oper → Bool} {ro : Option Nat} {N : Nat} {S : World → Prop} {l : List Oper} {k : Nat} {rest : List Oper} {Q : Exit → Act → World → Prop} {E E' : List (Nat × Value)} {ds : List Deferred} {w : World} (hs : Sub E' E)
    (h : DW P fl ro N S l k rest Q E' ds w) : DW P fl ro N S l k rest Q E ds w := fun a hk hd hS hl => h a (hk.sub hs) hd hS hl
def headOf : Option Code → Code
  | some (.seq r _) => r
  | _ => .skip
set_option maxRecDepth 20000 in
/-- The first region (its order is drawn, and calls and new memory stand unordered in it). -/
theorem block_head {vb : Value} {A b : List Int} {rest : List Value} {ga ta : Nat} {w : World} {Q' : Exit → Act → World → Prop} (hb : VL (Value.int .u8) w vb b) (hl : 64 ≤ b.length) (hA : A.length = 8) (BA : Blk w ga ta (u32s A ++ rest))
    (H : ∀ w8 gc gk gx, Ext w w8 → w.heap.size ≤ gc → w.heap.size ≤ gk → w.heap.size ≤ gx → gc ≠ gk → gc ≠ gx → gk ≠ gx → Blk w8 gc t_sha_words (u32s A) → Blk w8 gk t_64_uint32 (u32s keyL) → Blk w8 gx t_64_uint32 (u32s (schedL b 64)) →
      PN Try.f83.ntmps Q' .normal [(0, .pointer (some ⟨ga, 0, none⟩)), (4, .pointer (some ⟨gc, 0, none⟩)), (5, .pointer (some ⟨gk, 0, none⟩)), (6, .pointer (some ⟨gx, 0, none⟩))] [] w8) :
    CW Try.prog none Try.f83.ntmps (headOf Try.f83.body) Q' [(0, .pointer (some ⟨ga, 0, none⟩)), (1, vb)] [] w := by
  have hA8 : (u32s A).length = 8 := by rw [u32s_len, hA]
  let own : Nat → Value → Option Nat := fun i v => if 6 ≤ i then (match v with | .pointer (some a) => some a.block | _ => none) else none
  let φ : Nat → (Nat → Value) → World → Prop := fun i vs w => match i with
    | 0 => vs 0 = .pointer (some ⟨ga, 0, none⟩)
    | 1 => vs 1 = .pointer (some ⟨ga, 0, none⟩)
    | 2 => vs 2 = .agg (u32s A).toArray
    | 3 => vs 3 = .agg (u32s keyL).toArray
    | 4 => vs 4 = vb
    | 5 => vs 5 = .agg (u32s (schedL b 64)).toArray
    | 6 => ∃ g, vs 6 = .pointer (some ⟨g, 0, none⟩) ∧ Blk w g t_sha_words (u32s (List.replicate 8 0))
    | 7 => ∃ g, vs 7 = .pointer (some ⟨g, 0, none⟩) ∧ Blk w g t_64_uint32 (u32s (List.replicate 64 0))
    | 8 => ∃ g, vs 8 = .pointer (some ⟨g, 0, none⟩) ∧ Blk w g t_64_uint32 (u32s (List.replicate 64 0))
    | _ => True
  refine cw_ext (fl := flo) 9 (fun _ => True) [(0, .pointer (some ⟨ga, 0, none⟩)), (1, vb)] ⟨rfl, rfl, trivial⟩ rfl (by kernel_rfl) φ own ?_ ?_ ?_ ?_
  · intro j vs w1 w2 h hE
    match j, h with
    | 0, h | 1, h | 2, h | 3, h | 4, h | 5, h => exact h
    | 6, ⟨g, h1, h2⟩ => exact ⟨g, h1, h2.ext hE⟩
    | 7, ⟨g, h1, h2⟩ => exact ⟨g, h1, h2.ext hE⟩
    | 8, ⟨g, h1, h2⟩ => exact ⟨g, h1, h2.ext hE⟩
    | _ + 9, _ => trivial
  · intro j vs vs' w1 h hv
    have := hv j (.inl rfl)
    match j, h with
    | 0, h | 1, h | 2, h | 3, h | 4, h | 5, h => exact this.symm.trans h
    | 6, ⟨g, h1, h2⟩ => exact ⟨g, this.symm.trans h1, h2⟩
    | 7, ⟨g, h1, h2⟩ => exact ⟨g, this.symm.trans h1, h2⟩
    | 8, ⟨g, h1, h2⟩ => exact ⟨g, this.symm.trans h1, h2⟩
    | _ + 9, _ => trivial
  · intro i o hi ho vs a w' hE hk hφ
    match i, hi, ho, hk, hφ with
    | 0, _, ho, hk, hφ =>
      obtain rfl := Option.some.inj ho
      exact eff_ex hk (pev_sound (tt := lookT tts) (by kernel_rfl) w') ⟨Fr.refl _ _, rfl, fun g h => by simp [own] at h⟩
    | 1, _, ho, hk, hφ =>
      obtain rfl := Option.some.inj ho
      have h0 : vs 0 = .pointer (some ⟨ga, 0, none⟩) := hφ 0 (by decide +kernel)
      have hk := hk.sub (E' := [(11, .pointer (some ⟨ga, 0, none⟩))]) ⟨by rw [← h0]; kernel_rfl, trivial⟩
      exact eff_ex hk (pev_sound (tt := lookT tts) (by kernel_rfl) w') ⟨Fr.refl _ _, rfl, fun g h => by simp [own] at h⟩
    | 2, _, ho, hk, hφ =>
      obtain rfl := Option.some.inj ho
      have h0 : vs 1 = .pointer (some ⟨ga, 0, none⟩) := hφ 1 (by decide +kernel)
      have hk := hk.sub (E' := [(12, .pointer (some ⟨ga, 0, none⟩))]) ⟨by rw [← h0]; kernel_rfl, trivial⟩
      exact eff_ex hk (ex_loadN (tt := lookT tts) (cs := u32s A) rfl rfl rfl hA8 (fun j hj => by rw [Nat.zero_add, (BA.ext hE).cell j, List.getElem?_append_left hj])) ⟨Fr.refl _ _, rfl, fun g h => by simp [own] at h⟩
    | 3, _, ho, hk, hφ =>
      obtain rfl := Option.some.inj ho
      have hk := hk.sub (E' := []) trivial
      refine eff_call hk (ec_call rfl) ((keys_spec w').mono ?_)
      rintro e w'' ⟨rfl, he⟩
      exact ⟨_, rfl, he, rfl, fun g h => by simp [own] at h⟩
    | 4, _, ho, hk, hφ =>
      obtain rfl := Option.some.inj ho
      have hk := hk.sub (E' := [(1, vb)]) ⟨by kernel_rfl, trivial⟩
      exact eff_ex hk (pev_sound (tt := lookT tts) (by kernel_rfl) w') ⟨Fr.refl _ _, rfl, fun g h => by simp [own] at h⟩
    | 5, _, ho, hk, hφ =>
      obtain rfl := Option.some.inj ho
      have h0 : vs 4 = vb := hφ 4 (by decide +kernel)
      have hk := hk.sub (E' := [(15, vb)]) ⟨by rw [← h0]; kernel_rfl, trivial⟩
      refine eff_call hk (ec_call rfl) ((spread_spec (hb.ext hE) hl).mono ?_)
      rintro e w'' ⟨rfl, he⟩
      exact ⟨_, rfl, he, rfl, fun g h => by simp [own] at h⟩
    | 6, _, ho, hk, hφ =>
      obtain rfl := Option.some.inj ho
      exact eff_ex hk (ex_alloc (tt := lookT tts) rfl) ⟨Fr.alloc _ _, ⟨_, rfl, Blk.new w' t_sha_words (u32s (List.replicate 8 0))⟩, fun g h => by simp [own] at h; subst h; simp⟩
    | 7, _, ho, hk, hφ =>
      obtain rfl := Option.some.inj ho
      exact eff_ex hk (ex_alloc (tt := lookT tts) rfl) ⟨Fr.alloc _ _, ⟨_, rfl, Blk.new w' t_64_uint32 (u32s (List.replicate 64 0))⟩, fun g h => by simp [own] at h; subst h; simp⟩
    | 8, _, ho, hk, hφ =>
      obtain rfl := Option.some.inj ho
      exact eff_ex hk (ex_alloc (tt := lookT tts) rfl) ⟨Fr.alloc _ _, ⟨_, rfl, Blk.new w' t_64_uint32 (u32s (List.replicate 64 0))⟩, fun g h => by simp [own] at h; subst h; simp⟩
    | _ + 9, h, _, _, _ => omega
  · intro vs w5 hE hφ hlow hap
    have v2 : vs 2 = .agg (u32s A).toArray := hφ 2 (by decide)
    have v3 : vs 3 = .agg (u32s keyL).toArray := hφ 3 (by decide)
    have v5 : vs 5 = .agg (u32s (schedL b 64)).toArray := hφ 5 (by decide)
    obtain ⟨gc, v6, B6⟩ : ∃ g, vs 6 = .pointer (some ⟨g, 0, none⟩) ∧ Blk w5 g t_sha_words (u32s (List.replicate 8 0)) := hφ 6 (by decide)
    obtain ⟨gk, v7, B7⟩ : ∃ g, vs 7 = .pointer (some ⟨g, 0, none⟩) ∧ Blk w5 g t_64_uint32 (u32s (List.replicate 64 0)) := hφ 7 (by decide)
    obtain ⟨gx, v8, B8⟩ : ∃ g, vs 8 = .pointer (some ⟨g, 0, none⟩) ∧ Blk w5 g t_64_uint32 (u32s (List.replicate 64 0)) := hφ 8 (by decide)
    have o6 : own 6 (vs 6) = some gc := by rw [v6]; rfl
    have o7 : own 7 (vs 7) = some gk := by rw [v7]; rfl
    have o8 : own 8 (vs 8) = some gx := by rw [v8]; rfl
    have l6 := hlow 6 (by decide) gc o6
    have l7 := hlow 7 (by decide) gk o7
    have l8 := hlow 8 (by decide) gx o8
    have n67 : gc ≠ gk := fun e => hap 6 7 (by decide) (by decide) (by decide) gc o6 (by rw [o7, e])
    have n68 : gc ≠ gx := fun e => hap 6 8 (by decide) (by decide) (by decide) gc o6 (by rw [o8, e])
    have n78 : gk ≠ gx := fun e => hap 7 8 (by decide) (by decide) (by decide) gk o7 (by rw [o8, e])
    refine ⟨trivial, ?_⟩
    have hX : (schedL b 64).length = 64 := sched_len b 64
    have hK : keyL.length = 64 := rfl
    generalize schedL b 64 = X at *
    generalize keyL = K at *
    refine dw_sub (E' := [(0, .pointer (some ⟨ga, 0, none⟩)), (4, .pointer (some ⟨gc, 0, none⟩)), (5, .pointer (some ⟨gk, 0, none⟩)), (6, .pointer (some ⟨gx, 0, none⟩)), (13, .agg (u32s A).toArray), (14, .agg (u32s K).toArray), (16, .agg (u32s X).toArray)])
      ⟨by kernel_rfl, by rw [← v6]; kernel_rfl, by rw [← v7]; kernel_rfl, by rw [← v8]; kernel_rfl, by rw [← v2]; kernel_rfl, by rw [← v3]; kernel_rfl, by rw [← v5]; kernel_rfl, trivial⟩ ?_
    refine dw_storeW (vs := u32s A) rfl rfl rfl rfl rfl rfl rfl (by rw [hA8]; rfl) (u32s_one _) B6 (by rw [hA8]; rfl) ?_
    intro w6 C6 f6 z6
    refine ⟨trivial, ?_⟩
    refine dw_storeW (vs := u32s K) rfl rfl rfl rfl rfl rfl rfl (by rw [u32s_len, hK]; rfl) (u32s_one _) (B7.fr f6 (by omega)) (by rw [u32s_len, hK]; rfl) ?_
    intro w7 C7 f7 z7
    refine ⟨trivial, ?_⟩
    refine dw_storeW (vs := u32s X) rfl rfl rfl rfl rfl rfl rfl (by rw [u32s_len, hX]; rfl) (u32s_one _) ((B8.fr f6 (by omega)).fr f7 (by omega)) (by rw [u32s_len, hX]; rfl) ?_
    intro w8 C8 f8 z8
    refine ⟨trivial, dw_nil (pn_sub (E' := [(0, .pointer (some ⟨ga, 0, none⟩)), (4, .pointer (some ⟨gc, 0, none⟩)), (5, .pointer (some ⟨gk, 0, none⟩)), (6, .pointer (some ⟨gx, 0, none⟩))]) ⟨rfl, rfl, rfl, rfl, trivial⟩ (H w8 gc gk gx ?_ l6.1 l7.1 l8.1 n67 n68 n78 ((C6.fr f7 (by omega)).fr f8 (by omega)) (C7.fr f8 (by omega)) C8))⟩
    exact ((hE.trans' f6 (fun j hj h => by omega)).trans' f7 (fun j hj h => by omega)).trans' f8 (fun j hj h => by omega)

theorem block_spec {vb : Value} {A b : List Int} {rest : List Value} {ga ta : Nat} {w : World} (hb : VL (Value.int .u8) w vb b) (hl : 64 ≤ b.length) (hA : A.length = 8) (BA : Blk w ga ta (u32s A ++ rest)) :
    Calls Try.prog n_p_sha_words_block #[.pointer (some ⟨ga, 0, none⟩), vb] w fun e w' => (∃ v, e = .returned v) ∧ Blk w' ga ta (u32s (blockM A b) ++ rest) ∧ Fr (· = ga) w w' := by
  have hM : blockM A b = upd A (rnds (toW A) keyL (schedL b 64) 64).l 8 := rfl
  have hX : (schedL b 64).length = 64 := sched_len b 64
  have hK : keyL.length = 64 := rfl
  rw [hM]
  refine enter2 F_p_sha_words_block rfl rfl ?_
  refine cw_seq (block_head hb hl hA BA ?_)
  intro w8 gc gk gx e08 g1 g2 g3 n1 n2 n3 BC BK BX
  generalize schedL b 64 = X at *
  generalize keyL = K at *
  have hga : ga < w.heap.size := BA.lt
  replace BC : Blk w8 gc t_sha_words (u32s (rnds (toW A) K X 0).l) := by
    rwa [show (rnds (toW A) K X 0).l = A from toW_l A hA]
  refine pn_then ?_
  (refine ss ?_; refine sr ?_; refine o_p rfl rfl rfl ?_; refine on ?_)
  refine cw_block (cw_loop (G := Nat) (fun i => [(0, .pointer (some ⟨ga, 0, none⟩)), (4, .pointer (some ⟨gc, 0, none⟩)), (5, .pointer (some ⟨gk, 0, none⟩)), (6, .pointer (some ⟨gx, 0, none⟩)), (17, .int .i64 (i : Int))])
    (fun i W => Ext w W ∧ Blk W gc t_sha_words (u32s (rnds (toW A) K X i).l) ∧ Blk W gk t_64_uint32 (u32s K) ∧ Blk W gx t_64_uint32 (u32s X) ∧ i ≤ 64) (fun i => 64 - i) ?_ ?_)
  · exact ⟨0, ⟨rfl, rfl, rfl, rfl, rfl, trivial⟩, e08, BC, BK, BX, by omega⟩
  rintro i W ⟨hE, BC, BK, BX, hi⟩
  try dsimp only
  (refine sr ?_; refine o_p rfl rfl rfl ?_; refine on ?_)
  refine cw_seq (cw_if rfl (fun h => ?_) (fun h => ?_))
  · have hnx : rnds (toW A) K X (i + 1) = rnd (rnds (toW A) K X i) (K.getD i 0) (X.getD i 0) := rfl
    generalize hs : rnds (toW A) K X i = s at *
    generalize hki : K.getD i 0 = ki at *
    generalize hxi : X.getD i 0 = xi at *
    have ck : ∀ W', Ext W W' → W'.cell? ⟨gk, 0 + i, none⟩ = some (.int .u32 ki) := fun W' hW' => by
      rw [Nat.zero_add, ← hki]; exact Ext.cell hW' ((BK.cell i).trans (u32s_get K i (by omega)))
    have cx : ∀ W', Ext W W' → W'.cell? ⟨gx, 0 + i, none⟩ = some (.int .u32 xi) := fun W' hW' => by
      rw [Nat.zero_add, ← hxi]; exact Ext.cell hW' ((BX.cell i).trans (u32s_get X i (by omega)))
    have cc : ∀ W', Ext W W' → ∀ j, W'.cell? ⟨gc, j, none⟩ = (u32s s.l)[j]? := fun W' hW' j => (BC.ext hW').cell j
    refine (cw_skip (pn_then (cw_seq (cw_block (cw_seq (cw_region ?_))))))
    ((iterate 2 refine o_p rfl rfl rfl ?_))
    have d1 : Ext W W.drew := Fr.drew _
    refine (ow_nil (pn_then (cw_seq (cw_draw flo (fun W' => Ext W W') (by decide +kernel) d1 ?_))))
    refine d_ix (7) rfl rfl rfl rfl (by omega) (by omega) ?_
    refine dw_rd rfl rfl (fun W' hW' => ex_load rfl rfl rfl (cc W' hW' 7)) rfl ?_
    refine d_ix (4) rfl rfl rfl rfl (by omega) (by omega) ?_
    refine dw_rd rfl rfl (fun W' hW' => ex_load rfl rfl rfl (cc W' hW' 4)) rfl ?_
    refine dw_call rfl rfl (ec_call rfl) rfl ((turned_spec _ 6 (by decide) (by decide) _).mono ?_)
    rintro _ _ ⟨rfl, rfl⟩; refine ⟨_, rfl, d1, ?_⟩
    refine d_ix (4) rfl rfl rfl rfl (by omega) (by omega) ?_
    refine dw_rd rfl rfl (fun W' hW' => ex_load rfl rfl rfl (cc W' hW' 4)) rfl ?_
    refine dw_call rfl rfl (ec_call rfl) rfl ((turned_spec _ 11 (by decide) (by decide) _).mono ?_)
    rintro _ _ ⟨rfl, rfl⟩; refine ⟨_, rfl, d1, ?_⟩
    (refine d_p rfl rfl rfl rfl ?_)
    refine d_ix (4) rfl rfl rfl rfl (by omega) (by omega) ?_
    refine dw_rd rfl rfl (fun W' hW' => ex_load rfl rfl rfl (cc W' hW' 4)) rfl ?_
    refine dw_call rfl rfl (ec_call rfl) rfl ((turned_spec _ 25 (by decide) (by decide) _).mono ?_)
    rintro _ _ ⟨rfl, rfl⟩; refine ⟨_, rfl, d1, ?_⟩
    ((iterate 2 refine d_p rfl rfl rfl rfl ?_))
    refine d_ix (4) rfl rfl rfl rfl (by omega) (by omega) ?_
    refine dw_rd rfl rfl (fun W' hW' => ex_load rfl rfl rfl (cc W' hW' 4)) rfl ?_
    refine d_ix (5) rfl rfl rfl rfl (by omega) (by omega) ?_
    refine dw_rd rfl rfl (fun W' hW' => ex_load rfl rfl rfl (cc W' hW' 5)) rfl ?_
    (refine d_p rfl rfl rfl rfl ?_)
    refine d_ix (4) rfl rfl rfl rfl (by omega) (by omega) ?_
    refine dw_rd rfl rfl (fun W' hW' => ex_load rfl rfl rfl (cc W' hW' 4)) rfl ?_
    (refine d_p rfl rfl rfl rfl ?_)
    refine d_ix (6) rfl rfl rfl rfl (by omega) (by omega) ?_
    refine dw_rd rfl rfl (fun W' hW' => ex_load rfl rfl rfl (cc W' hW' 6)) rfl ?_
    ((iterate 4 refine d_p rfl rfl rfl rfl ?_))
    refine d_ix (i) rfl rfl rfl rfl (by omega) (by omega) ?_
    refine dw_rd rfl rfl (fun W' hW' => ex_load rfl rfl rfl (ck W' hW')) rfl ?_
    ((iterate 2 refine d_p rfl rfl rfl rfl ?_))
    refine d_ix (i) rfl rfl rfl rfl (by omega) (by omega) ?_
    refine dw_rd rfl rfl (fun W' hW' => ex_load rfl rfl rfl (cx W' hW')) rfl ?_
    ((iterate 2 refine d_p rfl rfl rfl rfl ?_))
    have d2 : Ext W W.drew.drew := d1.trans (Fr.drew _)
    refine (dw_nil (pn_then (cw_seq (cw_draw flo (fun W' => Ext W W') (by decide +kernel) d2 ?_))))
    refine d_ix (0) rfl rfl rfl rfl (by omega) (by omega) ?_
    refine dw_rd rfl rfl (fun W' hW' => ex_load rfl rfl rfl (cc W' hW' 0)) rfl ?_
    refine dw_call rfl rfl (ec_call rfl) rfl ((turned_spec _ 2 (by decide) (by decide) _).mono ?_)
    rintro _ _ ⟨rfl, rfl⟩; refine ⟨_, rfl, d2, ?_⟩
    refine d_ix (0) rfl rfl rfl rfl (by omega) (by omega) ?_
    refine dw_rd rfl rfl (fun W' hW' => ex_load rfl rfl rfl (cc W' hW' 0)) rfl ?_
    refine dw_call rfl rfl (ec_call rfl) rfl ((turned_spec _ 13 (by decide) (by decide) _).mono ?_)
    rintro _ _ ⟨rfl, rfl⟩; refine ⟨_, rfl, d2, ?_⟩
    (refine d_p rfl rfl rfl rfl ?_)
    refine d_ix (0) rfl rfl rfl rfl (by omega) (by omega) ?_
    refine dw_rd rfl rfl (fun W' hW' => ex_load rfl rfl rfl (cc W' hW' 0)) rfl ?_
    refine dw_call rfl rfl (ec_call rfl) rfl ((turned_spec _ 22 (by decide) (by decide) _).mono ?_)
    rintro _ _ ⟨rfl, rfl⟩; refine ⟨_, rfl, d2, ?_⟩
    (refine d_p rfl rfl rfl rfl ?_)
    refine d_ix (0) rfl rfl rfl rfl (by omega) (by omega) ?_
    refine dw_rd rfl rfl (fun W' hW' => ex_load rfl rfl rfl (cc W' hW' 0)) rfl ?_
    refine d_ix (1) rfl rfl rfl rfl (by omega) (by omega) ?_
    refine dw_rd rfl rfl (fun W' hW' => ex_load rfl rfl rfl (cc W' hW' 1)) rfl ?_
    (refine d_p rfl rfl rfl rfl ?_)
    refine d_ix (0) rfl rfl rfl rfl (by omega) (by omega) ?_
    refine dw_rd rfl rfl (fun W' hW' => ex_load rfl rfl rfl (cc W' hW' 0)) rfl ?_
    refine d_ix (2) rfl rfl rfl rfl (by omega) (by omega) ?_
    refine dw_rd rfl rfl (fun W' hW' => ex_load rfl rfl rfl (cc W' hW' 2)) rfl ?_
    ((iterate 2 refine d_p rfl rfl rfl rfl ?_))
    refine d_ix (1) rfl rfl rfl rfl (by omega) (by omega) ?_
    refine dw_rd rfl rfl (fun W' hW' => ex_load rfl rfl rfl (cc W' hW' 1)) rfl ?_
    refine d_ix (2) rfl rfl rfl rfl (by omega) (by omega) ?_
    refine dw_rd rfl rfl (fun W' hW' => ex_load rfl rfl rfl (cc W' hW' 2)) rfl ?_
    ((iterate 4 refine d_p rfl rfl rfl rfl ?_))
    refine (dw_nil (pn_then (cw_region ?_)))
    ((iterate 3 refine o_p rfl rfl rfl ?_))
    refine o_ix (0) rfl rfl rfl (by omega) (by omega) ?_
    refine ow_ex rfl (ex_load rfl rfl rfl (cc _ d2 0)) rfl ?_
    refine o_ix (1) rfl rfl rfl (by omega) (by omega) ?_
    refine ow_ex rfl (ex_load rfl rfl rfl (cc _ d2 1)) rfl ?_
    refine o_ix (2) rfl rfl rfl (by omega) (by omega) ?_
    refine ow_ex rfl (ex_load rfl rfl rfl (cc _ d2 2)) rfl ?_
    refine o_ix (3) rfl rfl rfl (by omega) (by omega) ?_
    refine ow_ex rfl (ex_load rfl rfl rfl (cc _ d2 3)) rfl ?_
    ((iterate 2 refine o_p rfl rfl rfl ?_))
    refine o_ix (4) rfl rfl rfl (by omega) (by omega) ?_
    refine ow_ex rfl (ex_load rfl rfl rfl (cc _ d2 4)) rfl ?_
    refine o_ix (5) rfl rfl rfl (by omega) (by omega) ?_
    refine ow_ex rfl (ex_load rfl rfl rfl (cc _ d2 5)) rfl ?_
    refine o_ix (6) rfl rfl rfl (by omega) (by omega) ?_
    refine ow_ex rfl (ex_load rfl rfl rfl (cc _ d2 6)) rfl ?_
    refine o_b rfl rfl rfl ?_
    refine ow_storeW (vs := u32s (rnd s ki xi).l) rfl rfl rfl rfl rfl rfl rfl (u32s_one _) (BC.ext d2) rfl ?_
    intro W9 B9 f9 z9
    refine (ow_nil (pn_block (pn_then (cw_region ?_))))
    refine o_c rfl rfl rfl (by unfold I64; omega) ?_
    (refine o_p rfl rfl rfl ?_)
    have hsz := d2.size
    refine (ow_nil (pn_round (i + 1) ?_ ?_ ?_))
    · exact ⟨rfl, rfl, rfl, rfl, rfl, trivial⟩
    · refine ⟨(hE.trans d2).trans' f9 (fun j hj h => by omega), ?_, (BK.ext d2).fr f9 (by omega), (BX.ext d2).fr f9 (by omega), by omega⟩
      rw [hnx]; exact B9
    · show 64 - (i + 1) < 64 - i; omega
  · obtain rfl : i = 64 := by omega
    generalize hC : (rnds (toW A) K X 64).l = C at *
    have hC8 : C.length = 8 := by rw [← hC]; rfl
    refine (cw_exit (pn_then_exit (pn_loop_exit (pn_block_exit (pn_then (cw_seq (cw_region ?_)))))))
    (refine o_p rfl rfl rfl ?_; refine on ?_)
    refine cw_block (cw_loop (G := Nat) (fun i => [(0, .pointer (some ⟨ga, 0, none⟩)), (4, .pointer (some ⟨gc, 0, none⟩)), (105, .int .i64 (i : Int))])
      (fun i W => Fr (· = ga) w W ∧ Blk W ga ta (u32s (upd A C i) ++ rest) ∧ Blk W gc t_sha_words (u32s C) ∧ i ≤ 8) (fun i => 8 - i) ?_ ?_)
    · exact ⟨0, ⟨rfl, rfl, rfl, trivial⟩, Ext.fr hE, by rw [upd_zero A C hA]; exact BA.ext hE, BC, by omega⟩
    rintro i W ⟨hE, BA, BC, hi⟩
    try dsimp only
    (refine sr ?_; refine o_p rfl rfl rfl ?_; refine on ?_)
    refine cw_seq (cw_if rfl (fun h => ?_) (fun h => ?_))
    · have d1 : Ext W W.drew := Fr.drew _
      have hu8 : (u32s (upd A C i)).length = 8 := by rw [u32s_len, upd_len]
      have ca : W.drew.cell? ⟨ga, 0 + i, none⟩ = some (.int .u32 (A.getD i 0)) := by
        rw [Nat.zero_add, (BA.ext d1).cell i, List.getElem?_append_left (by omega), u32s_get _ _ (by rw [upd_len]; omega), upd_get _ _ _ _ (by omega), if_neg (by omega)]
      have cc : W.drew.cell? ⟨gc, 0 + i, none⟩ = some (.int .u32 (C.getD i 0)) := by
        rw [Nat.zero_add, (BC.ext d1).cell i, u32s_get _ _ (by omega)]
      have cf : W.drew.frozen? ⟨ga, 0 + i, none⟩ = false := (BA.ext d1).frozen _
      refine (cw_skip (pn_then (cw_seq (cw_block (cw_seq (cw_region ?_))))))
      ((iterate 2 refine o_p rfl rfl rfl ?_))
      have hgag : ga ≠ gc := by omega
      refine (ow_nil (pn_then (cw_draw2 flo 11 (fun W' => (W'.cell? ⟨gc, 0 + i, none⟩ = some (.int .u32 (C.getD i 0))) ∧ (W'.cell? ⟨ga, 0 + i, none⟩ = some (.int .u32 (A.getD i 0)))) (fun _ => True) rfl (by decide +kernel) ⟨cc, ca⟩ ?_)))
      ((iterate 3 refine d_p rfl rfl rfl rfl ?_))
      refine d_ix (i) rfl rfl rfl rfl (by omega) (by omega) ?_
      refine dw_rd rfl rfl (fun W' hW' => ex_load rfl rfl rfl (hW'.2)) rfl ?_
      (refine d_p rfl rfl rfl rfl ?_)
      refine d_ix (i) rfl rfl rfl rfl (by omega) (by omega) ?_
      refine dw_rd rfl rfl (fun W' hW' => ex_load rfl rfl rfl (hW'.1)) rfl ?_
      ((iterate 2 refine d_p rfl rfl rfl rfl ?_))
      refine d_ix (i) rfl rfl rfl rfl (by omega) (by omega) ?_
      refine dw_nil (pn_draw2 rfl trivial ?_)
      refine dw_eu rfl rfl (eu_store rfl rfl rfl rfl rfl ca cf) trivial ?_
      refine (dw_nil (pn_block (pn_then (cw_region ?_))))
      refine o_c rfl rfl rfl (by unfold I64; omega) ?_
      (refine o_p rfl rfl rfl ?_)
      have Bs := (BA.ext d1).set i (.int .u32 (add32 (A.getD i 0) (C.getD i 0)))
      rw [List.set_append_left _ _ (by omega)] at Bs
      have hset : (u32s (upd A C i)).set i (.int .u32 (add32 (A.getD i 0) (C.getD i 0))) = u32s (upd A C (i + 1)) := by
        rw [← upd_set A C i (by omega)]; simp [u32s, List.map_set]
      rw [hset] at Bs
      have hzz : 0 + mulz i 1 = i := by rw [mulz_eq]; omega
      refine (ow_nil (pn_round (i + 1) ?_ ?_ ?_))
      · exact ⟨rfl, rfl, rfl, trivial⟩
      · refine ⟨(hE.trans (Ext.fr d1)).trans (Fr.setCell W.drew ⟨ga, _, none⟩ _), ?_, (BC.ext d1).fr (Fr.setCell _ _ _) (by simp; omega), by omega⟩
        rw [hzz]; exact Bs
      · show 8 - (i + 1) < 8 - i; omega
    · refine (cw_exit (pn_then_exit (pn_loop_exit (pn_block_exit (pn_end0 rfl ⟨⟨_, rfl⟩, ?_, hE⟩)))))
      obtain rfl : i = 8 := by omega
      exact BA
end Go.Proofs.Ytjfileaidgknjaa
/- Digests, part four: what a hash is; is it none; how long it is. Conditions: the hash is nil, or lies whole in a block of its own. -/
namespace Go.Proofs.Ytjfileaidgknjaa
open Go.Eng Go.RowKit

/-- A hash's cells. -/
def hashC (a : List Int) (r : Value) (n : Int) (m : Bool) : List Value := u32s a ++ [r, .int .i64 n, .bool m]
theorem hashC_8 (a : List Int) (r : Value) (n : Int) (m : Bool) (h : a.length = 8) : (hashC a r n m)[8]? = some r ∧ (hashC a r n m)[9]? = some (.int .i64 n) ∧ (hashC a r n m)[10]? = some (.bool m) := by
  match a, h with
  | [_, _, _, _, _, _, _, _], _ => exact ⟨rfl, rfl, rfl⟩

theorem none_nil_spec (w : World) : Calls Try.prog n_p_sha_Hash_none #[.pointer none] w fun e w' => e = .returned (.bool true) ∧ w = w' := by
  refine enter1 F_p_sha_Hash_none rfl rfl ?_
  (refine sr ?_; refine o_p rfl rfl rfl ?_; refine on ?_; refine sr ?_; refine o_p rfl rfl rfl ?_)
  refine o_n rfl rfl rfl ?_
  (refine o_p rfl rfl rfl ?_; (iterate 5 refine ow_skip rfl rfl ?_); (iterate 2 refine o_p rfl rfl rfl ?_))
  exact (ow_nil (pn_then (cw_ret (pn_ret rfl rfl ⟨rfl, rfl⟩))))
theorem none_spec {g t : Nat} {a : List Int} {r : Value} {n : Int} {m : Bool} {w : World} (hB : Blk w g t (hashC a r n m)) (ha : a.length = 8) :
    Calls Try.prog n_p_sha_Hash_none #[.pointer (some ⟨g, 0, none⟩)] w fun e w' => e = .returned (.bool (!m)) ∧ w = w' := by
  have h10 := (hB.cell 10).trans (hashC_8 a r n m ha).2.2
  refine enter1 F_p_sha_Hash_none rfl rfl ?_
  (refine sr ?_; refine o_p rfl rfl rfl ?_; refine on ?_; refine sr ?_; refine o_p rfl rfl rfl ?_)
  refine o_n rfl rfl rfl ?_
  ((iterate 4 refine o_p rfl rfl rfl ?_))
  refine ow_ex rfl (ex_load rfl rfl rfl (h10)) rfl ?_
  ((iterate 3 refine o_p rfl rfl rfl ?_))
  exact (ow_nil (pn_then (cw_ret (pn_ret rfl rfl ⟨rfl, rfl⟩))))

theorem New_spec (w : World) : Calls Try.prog n_sha_New #[] w fun e w' => ∃ g, e = .returned (.pointer (some ⟨g, 0, none⟩)) ∧ w.heap.size ≤ g ∧ Blk w' g t_sha_Hash (hashC beginL (.slice none 0 0) 0 true) ∧ Ext w w' := by
  refine enter0 F_sha_New rfl rfl ?_
  (refine sr ?_; refine o_p rfl rfl rfl ?_; refine on ?_; refine sr ?_)
  refine ow_call rfl (ec_call rfl) rfl ((begin_spec w).mono ?_)
  rintro _ w1 ⟨rfl, e1⟩; refine ⟨_, rfl, ?_⟩
  refine ow_pu (v := .agg ⟨hashC beginL (.slice none 0 0) 0 true⟩) rfl (pevb_sound (by kernel_rfl)) rfl ?_
  refine ow_box rfl rfl rfl rfl ?_
  intro w2 B2 e2 z2
  (refine o_p rfl rfl rfl ?_)
  exact (ow_nil (pn_then (cw_ret (pn_ret rfl rfl ⟨_, rfl, e1.size, B2, e1.trans e2⟩))))
end Go.Proofs.Ytjfileaidgknjaa
/- Digests, part five: bytes are written into a hash. Conditions: the hash lies whole in a block of its own; the bytes may be read, and lie elsewhere; not too many. -/
namespace Go.Proofs.Ytjfileaidgknjaa
open Go.Eng Go.RowKit

abbrev u8s (l : List Int) : List Value := l.map (Value.int .u8)
theorem u8s_one (l : List Int) : ∀ u ∈ u8s l, u.oneCell' = true := by intro u hu; obtain ⟨x, _, rfl⟩ := List.mem_map.1 hu; rfl
/-- Whole blocks are taken in, from the head. -/
def absorb : Nat → List Int → List Int → List Int × List Int
  | 0, a, l => (a, l)
  | k + 1, a, l => if 64 ≤ l.length then absorb k (blockM a (l.take 64)) (l.drop 64) else (a, l)
theorem absorb_end (k : Nat) (a l : List Int) (h : l.length < 64) : absorb k a l = (a, l) := by
  cases k with
  | zero => rfl
  | succ k => rw [absorb, if_neg (by omega)]
theorem hashC_set9 (a : List Int) (r : Value) (n n' : Int) (m : Bool) (h : a.length = 8) : (hashC a r n m).set 9 (.int .i64 n') = hashC a r n' m := by
  match a, h with
  | [_, _, _, _, _, _, _, _], _ => rfl
theorem hashC_set8 (a : List Int) (r r' : Value) (n : Int) (m : Bool) (h : a.length = 8) : (hashC a r n m).set 8 r' = hashC a r' n m := by
  match a, h with
  | [_, _, _, _, _, _, _, _], _ => rfl
abbrev OB (w : World) (base : Nat) (v : Value) (l : List Int) : Prop := Oat w base t_uint8 1 v l.length (u8s l)

theorem Write_spec {g base : Nat} {a rs b : List Int} {r vb : Value} {n : Int} {w : World} (hB : Blk w g t_sha_Hash (hashC a r n true)) (ha : a.length = 8) (hr : OB w base r rs) (hrg : r.ownBlock ≠ some g) (hgb : g < base) (hbase : base ≤ w.heap.size)
    (hb : VL (Value.int .u8) w vb b) (hvb : ∀ k, inBlk vb k → k ≠ g) (hn : 0 ≤ n ∧ n ≤ 1048576) (hlen : rs.length + b.length ≤ 1048576) :
    Calls Try.prog n_p_sha_Hash_Write #[.pointer (some ⟨g, 0, none⟩), vb] w fun e w' => e = .returned (.int .i64 0) ∧ ∃ r', Blk w' g t_sha_Hash (hashC (absorb (rs.length + b.length) a (rs ++ b)).1 r' (n + b.length) true) ∧
      OB w' base r' (absorb (rs.length + b.length) a (rs ++ b)).2 ∧ Fr (fun k => k = g ∨ r.ownBlock = some k) w w' := by
  obtain ⟨A, c, rfl, hnc, hcm, hz, hcell⟩ := hb.op
  have h9 := (hB.cell 9).trans (hashC_8 a r n true ha).2.1
  refine enter2 F_p_sha_Hash_Write rfl rfl ?_
  (refine sr ?_; refine o_p rfl rfl rfl ?_; refine on ?_; refine ss ?_; refine sr ?_; refine o_p rfl rfl rfl ?_)
  refine ow_call rfl (ec_call rfl) rfl ((none_spec hB ha).mono ?_)
  rintro _ _ ⟨rfl, rfl⟩; refine ⟨_, rfl, ?_⟩
  refine on (cw_cond_f rfl (cw_skip (pn_then (sr ?_))))
  ((iterate 3 refine o_p rfl rfl rfl ?_))
  refine ow_ex rfl (ex_load rfl rfl rfl (h9)) rfl ?_
  ((iterate 2 refine o_p rfl rfl rfl ?_))
  refine o_c rfl rfl rfl (by unfold I64; omega) ?_
  ((iterate 2 refine o_p rfl rfl rfl ?_))
  refine ow_eu rfl (eu_store rfl rfl rfl rfl rfl h9 (hB.frozen 9)) ?_
  have B1 := hB.set 9 (.int .i64 (n + b.length))
  rw [hashC_set9 _ _ _ _ _ ha] at B1
  have f1 := Fr.setCell w ⟨g, 9, none⟩ (.int .i64 (n + b.length))
  change OW _ _ _ _ _ _ _ _ (w.setCell ⟨g, 9, none⟩ (.int .i64 (n + b.length)))
  have z1 : (w.setCell ⟨g, 9, none⟩ (.int .i64 (n + b.length))).heap.size = w.heap.size := by simp
  generalize w.setCell ⟨g, 9, none⟩ (.int .i64 (n + b.length)) = w1 at *
  have hr1 := hr.fr f1 (fun k hk h => hrg (by rw [hk, h]))
  have hb1 := VL.fr hb f1 (fun k hk h => hvb k hk h)
  refine on (sr ?_)
  ((iterate 4 refine o_p rfl rfl rfl ?_))
  refine ow_ex rfl (ex_load rfl rfl rfl ((B1.cell 8).trans (hashC_8 a r _ true ha).1)) rfl ?_
  (refine o_p rfl rfl rfl ?_)
  refine ow_appendO rfl rfl rfl rfl rfl rfl rfl rfl hr1 hb1 (u8s_one _) (by omega) (by omega) ?_
  intro r' w2 own fr
  have hl0 : u8s rs ++ u8s b = u8s (rs ++ b) := by simp [u8s]
  have hown : OB w2 base r' (rs ++ b) := by
    unfold OB
    rw [List.length_append, ← hl0]; exact own
  have B2 := B1.fr fr (fun h => hrg h)
  ((iterate 2 refine o_p rfl rfl rfl ?_))
  refine ow_eu rfl (eu_store rfl rfl rfl rfl hown.one ((B2.cell 8).trans (hashC_8 a r _ true ha).1) (B2.frozen 8)) ?_
  have B3 := B2.set 8 r'
  rw [hashC_set8 _ _ _ _ _ ha] at B3
  have f3 := Fr.setCell w2 ⟨g, 8, none⟩ r'
  change OW _ _ _ _ _ _ _ _ (w2.setCell ⟨g, 8, none⟩ r')
  have z3 : (w2.setCell ⟨g, 8, none⟩ r').heap.size = w2.heap.size := by simp
  generalize w2.setCell ⟨g, 8, none⟩ r' = w3 at *
  have hown3 : OB w3 base r' (rs ++ b) := hown.fr f3 (fun k hk h => by have := (hown.block hk).1; simp at h; omega)
  have F3 : Fr (fun k => k = g ∨ r.ownBlock = some k) w w3 :=
    ((f1.mono fun k _ h => .inl h).trans (fr.mono fun k _ h => .inr h)).trans (f3.mono fun k _ h => .inl h)
  clear B1 B2 hr1 hb1 f1 f3 fr own hown
  refine on (cw_seq (cw_block (cw_loop (G := List Int × List Int × Value) (fun s => [(0, .pointer (some ⟨g, 0, none⟩))])
    (fun s W => Fr (fun k => k = g ∨ r.ownBlock = some k) w W ∧ Blk W g t_sha_Hash (hashC s.1 s.2.2 (n + b.length) true) ∧ s.1.length = 8 ∧ OB W base s.2.2 s.2.1 ∧ s.2.1.length ≤ 1048576 ∧
      ∃ k, s.2.1.length ≤ k ∧ absorb k s.1 s.2.1 = absorb (rs.length + b.length) a (rs ++ b)) (fun s => s.2.1.length) ?_ ?_)))
  · exact ⟨(a, rs ++ b, r'), ⟨rfl, trivial⟩, F3, B3, ha, hown3, by simp; omega, rs.length + b.length, by simp, rfl⟩
  rintro ⟨a', l, r2⟩ W ⟨hF, B, ha', hO, hl, k, hk, hab⟩
  dsimp only at B ha' hO hl hk hab ⊢
  obtain ⟨A2, c2, rfl, hc1, hc2, hc3⟩ := Oat.form hO
  have h8 := (B.cell 8).trans (hashC_8 a' _ _ true ha').1
  (refine ss ?_; refine sr ?_; (iterate 3 refine o_p rfl rfl rfl ?_))
  refine ow_ex rfl (ex_load rfl rfl rfl (h8)) rfl ?_
  ((iterate 2 refine o_p rfl rfl rfl ?_))
  refine on (cw_if rfl (fun h => ?_) (fun h => ?_))
  · have hl64 : 64 ≤ l.length := by omega
    obtain ⟨g2, off2, rfl⟩ := hc3 (by omega)
    have hz2 : ¬ c2 = 0 := by omega
    have hg2 : base ≤ g2 := (Oat.block hO rfl).1
    have ht := Oat.take hO (k := 64) hl64
    have htk : (u8s l).take (64 * 1) = u8s (l.take 64) := by simp [u8s, List.map_take]
    have hdk : (u8s l).drop (64 * 1) = u8s (l.drop 64) := by simp [u8s, List.map_drop]
    rw [htk] at ht
    have hvl : VL (Value.int .u8) W (.slice (some ⟨g2, off2, none⟩) 64 c2) (l.take 64) := by
      have h1 : (l.take 64).length = 64 := by simp; omega
      unfold VL
      rw [h1]; exact ht.sl
    have S1 : W.drew.cell? ⟨g, 8, none⟩ = some (.slice (some ⟨g2, off2, none⟩) l.length c2) := Ext.cell (Fr.drew _) h8
    refine (cw_skip (pn_then (cw_block (cw_seq (cw_draw2 flo 8 (fun W' => W'.cell? ⟨g, 8, none⟩ = some (.slice (some ⟨g2, off2, none⟩) l.length c2)) (fun _ => True) rfl (by decide +kernel) S1 ?_)))))
    ((iterate 6 refine d_p rfl rfl rfl rfl ?_))
    refine dw_rd rfl rfl (fun W' hW' => ex_load rfl rfl rfl (hW')) rfl ?_
    refine d_c rfl rfl rfl rfl (by omega) ?_
    refine d_know 38 (.slice (some ⟨g2, off2, none⟩) 64 c2) rfl (by rw [if_neg hz2]; simp [Addr.add]) ?_
    refine dw_nil (pn_draw2 rfl trivial ?_)
    have Bd := B.ext (Fr.drew W)
    refine dw_call rfl rfl (ec_call rfl) rfl ((block_spec (A := a') (b := l.take 64) (rest := [.slice (some ⟨g2, off2, none⟩) l.length c2, .int .i64 (n + b.length), .bool true]) (hvl.ext (Fr.drew W)) (by simp; omega) ha' Bd).mono ?_)
    rintro _ W4 ⟨⟨u4, rfl⟩, B4, f4⟩
    refine ⟨_, rfl, trivial, ?_⟩
    have f4' : Fr (· = g) W W4 := (Fr.drew W).trans f4
    have B4 : Blk W4 g t_sha_Hash (hashC (blockM a' (l.take 64)) (.slice (some ⟨g2, off2, none⟩) l.length c2) (n + b.length) true) := B4
    have hb8 := blockM_len a' (l.take 64)
    have hO4 : OB W4 base (.slice (some ⟨g2, off2, none⟩) l.length c2) l := hO.fr f4' (fun k hk h => by have := (hO.block hk).1; omega)
    have h84 := (B4.cell 8).trans (hashC_8 _ _ _ true hb8).1
    refine dw_nil (pn_then (cw_region ?_))
    ((iterate 4 refine o_p rfl rfl rfl ?_))
    refine ow_ex rfl (ex_load rfl rfl rfl (h84)) rfl ?_
    refine o_c rfl rfl rfl (by omega) ?_
    ((iterate 2 refine o_p rfl rfl rfl ?_))
    have hO5 := Oat.drop hO4 (k := 64) hl64
    rw [hdk] at hO5
    have h1 : (l.drop 64).length = l.length - 64 := by simp
    have hO5 : OB W4 base (.slice (if c2 = 64 then some ⟨g2, off2, none⟩ else (some ⟨g2, off2, none⟩ : Option Addr).map (·.add (64 * 1))) (l.length - 64) (c2 - 64)) (l.drop 64) := by unfold OB; rw [h1]; exact hO5
    refine ow_eu rfl (eu_store rfl rfl rfl rfl rfl h84 (B4.frozen 8)) ?_
    have B5 := B4.set 8 (.slice (if c2 = 64 then some ⟨g2, off2, none⟩ else (some ⟨g2, off2, none⟩ : Option Addr).map (·.add (64 * 1))) (l.length - 64) (c2 - 64))
    rw [hashC_set8 _ _ _ _ _ hb8] at B5
    have f5 := Fr.setCell W4 ⟨g, 8, none⟩ (.slice (if c2 = 64 then some ⟨g2, off2, none⟩ else (some ⟨g2, off2, none⟩ : Option Addr).map (·.add (64 * 1))) (l.length - 64) (c2 - 64))
    refine (ow_nil (pn_block (pn_round (blockM a' (l.take 64), l.drop 64, (.slice (if c2 = 64 then some ⟨g2, off2, none⟩ else (some ⟨g2, off2, none⟩ : Option Addr).map (·.add (64 * 1))) (l.length - 64) (c2 - 64))) ?_ ?_ ?_)))
    · exact ⟨rfl, trivial⟩
    · refine ⟨(hF.trans (f4'.mono fun k _ h => .inl h)).trans (f5.mono fun k _ h => .inl h), B5, hb8, hO5.fr f5 (fun k hk h => by have := (hO5.block hk).1; simp at h; omega), by simp; omega, ?_⟩
      cases k with
      | zero => omega
      | succ k =>
        refine ⟨k, by simp; omega, ?_⟩
        rw [← hab]
        show _ = absorb (k + 1) a' l
        rw [absorb, if_pos hl64]
    · show (l.drop 64).length < l.length
      simp; omega
  · refine (cw_exit (pn_then_exit (pn_loop_exit (pn_block_exit (pn_then (sr ?_))))))
    (refine o_p rfl rfl rfl ?_)
    have he := absorb_end k a' l (by omega)
    rw [hab] at he
    refine (ow_nil (pn_then (cw_ret (pn_ret rfl rfl ⟨rfl, .slice A2 l.length c2, ?_, ?_, hF⟩))))
    · rw [he]; exact B
    · rw [he]; exact hO
end Go.Proofs.Ytjfileaidgknjaa
/- Digests, part six: copies of bytes. Conditions: the bytes may be read, and are not too many. -/
namespace Go.Proofs.Ytjfileaidgknjaa
open Go.Eng Go.RowKit

abbrev MB (w : World) (base : Nat) (v : Value) (l : List Int) : Prop := Mine w base t_uint8 1 v l.length (u8s l)
theorem Mine.made0 (w : World) : MB (w.alloc (.cells #[] t_uint8)) w.heap.size (.slice (some ⟨w.heap.size, 0, none⟩) 0 0) [] := World.ownsRow_made w #[] 0 (Nat.le_refl _) (by decide) (by rfl)

theorem CopyBytes_spec {va : Value} {xs : List Int} {w : World} (ha : VL (Value.int .u8) w va xs) (hlen : xs.length ≤ 1048576) :
    Calls Try.prog n_entrepotkit_CopyBytes #[va] w fun e w' => ∃ v, e = .returned v ∧ MB w' w.heap.size v xs ∧ Ext w w' := by
  refine enter1 F_entrepotkit_CopyBytes rfl rfl ?_
  repeat (first | refine o_p rfl rfl rfl ?_ | refine on ?_ | refine sr ?_ | refine ss ?_)
  refine ow_ex rfl (ex_buildSlice (vs := []) (cells := []) rfl rfl rfl rfl (by decide) (fun z hz => by simp at hz; subst hz; rfl)) rfl ?_
  repeat refine o_p rfl rfl rfl ?_
  refine ow_append rfl rfl rfl rfl rfl rfl rfl rfl (Mine.made0 w) (ha.ext (Fr.alloc _ _)) (u8s_one _) (by simp; omega) (by simp) ?_
  intro v' w' own fr
  repeat refine o_p rfl rfl rfl ?_
  refine on (cw_ret (pn_ret rfl rfl ⟨_, rfl, by simpa [MB, u8s] using own, ?_⟩))
  exact Fr.trans' (Fr.alloc _ _) fr (by intro j hj h; simp [Value.ownBlock] at h; omega)

theorem Clone_spec {va : Value} {xs : List Int} {w : World} (ha : VL (Value.int .u8) w va xs) (hlen : xs.length ≤ 1048576) :
    Calls Try.prog n_bytes_Clone #[va] w fun e w' => ∃ v, e = .returned v ∧ MB w' w.heap.size v xs ∧ Ext w w' := by
  obtain ⟨A, c, rfl, hnc, hcm, hz, hcell⟩ := ha.op
  refine enter1 F_bytes_Clone rfl rfl ?_
  (refine sr ?_; refine o_p rfl rfl rfl ?_; refine on ?_; refine ss ?_; refine sr ?_; refine o_p rfl rfl rfl ?_)
  refine o_n rfl rfl rfl ?_
  cases A with
  | none =>
    have h0 : xs = [] := List.eq_nil_of_length_eq_zero (by have := hz rfl; omega)
    subst h0
    refine on (cw_cond_t rfl (sr ?_))
    (refine o_p rfl rfl rfl ?_)
    exact (ow_nil (pn_then (cw_ret (pn_then_ret (pn_ret rfl rfl ⟨_, rfl, Mine.nil _ _ _ _, Fr.refl _ _⟩)))))
  | some a =>
    refine on (cw_cond_f rfl (cw_skip (pn_then (sr ?_))))
    refine ow_ex rfl (ex_buildSlice (vs := []) (cells := []) rfl rfl rfl rfl (by decide) (fun z hz => by simp at hz; subst hz; rfl)) rfl ?_
    (refine o_p rfl rfl rfl ?_)
    refine ow_append rfl rfl rfl rfl rfl rfl rfl rfl (Mine.made0 w) (ha.ext (Fr.alloc _ _)) (u8s_one _) (by simp; omega) (by simp) ?_
    intro v' w' own fr
    (refine o_p rfl rfl rfl ?_)
    refine on (cw_ret (pn_ret rfl rfl ⟨_, rfl, by simpa [MB, u8s] using own, ?_⟩))
    exact Fr.trans' (Fr.alloc _ _) fr (by intro j hj h; simp [Value.ownBlock] at h; omega)
end Go.Proofs.Ytjfileaidgknjaa
/- Digests, part eight: what is written, piece by piece; the digest of what was written. Conditions: the bytes may be read, and are not too many. -/
namespace Go.Proofs.Ytjfileaidgknjaa
open Go.Eng Go.RowKit

theorem hC8 {a : List Int} {r : Value} {n : Int} {m : Bool} (h : a.length = 8) : nth (hashC a r n m) 8 = some r := by
  match a, h with
  | [_, _, _, _, _, _, _, _], _ => rfl
theorem hC9 {a : List Int} {r : Value} {n : Int} {m : Bool} (h : a.length = 8) : nth (hashC a r n m) 9 = some (.int .i64 n) := by
  match a, h with
  | [_, _, _, _, _, _, _, _], _ => rfl
theorem hS8 {a : List Int} {r r' : Value} {n : Int} {m : Bool} (h : a.length = 8) : stO (hashC a r n m) 8 r' = some (hashC a r' n m) := by
  match a, h with
  | [_, _, _, _, _, _, _, _], _ => rfl
theorem hS9 {a : List Int} {r : Value} {n n' : Int} {m : Bool} (h : a.length = 8) : stO (hashC a r n m) 9 (.int .i64 n') = some (hashC a r n' m) := by
  match a, h with
  | [_, _, _, _, _, _, _, _], _ => rfl
/-- A row of bytes of its own. -/
abbrev rB (v : Value) (l : List Int) : SP := row t_uint8 1 v l.length (u8s l)
theorem rB_app (v : Value) (l m : List Int) : row t_uint8 1 v (l.length + m.length) (u8s l ++ u8s m) = rB v (l ++ m) := by simp [rB, u8s]
/-- A block of words is taken in. -/
theorem block_S {b : World} {F : List SP} {vb : Value} {A l : List Int} {rest : List Value} {ga ta : Nat} (hb : ∀ w, Sat b (pt ga ta (u32s A ++ rest) :: F) w → VL (Value.int .u8) w vb l) (hl : 64 ≤ l.length) (hA : A.length = 8) :
    SC Try.prog n_p_sha_words_block [.pointer (some ⟨ga, 0, none⟩), vb] b (pt ga ta (u32s A ++ rest) :: F) (fun _ F' => F' = pt ga ta (u32s (blockM A l) ++ rest) :: F) :=
  fun w H => (block_spec (hb w H) hl hA (H.blk (k := 0) rfl)).mono fun _ _ ⟨⟨v, hv⟩, B, f⟩ => ⟨v, _, hv, rfl, H.write (k := 0) rfl f B rfl⟩

theorem block_S0 {b : World} {F : List SP} {vb : Value} {A l : List Int} {ga ta : Nat} (hb : ∀ w, Sat b (pt ga ta (u32s A) :: F) w → VL (Value.int .u8) w vb l) (hl : 64 ≤ l.length) (hA : A.length = 8) :
    SC Try.prog n_p_sha_words_block [.pointer (some ⟨ga, 0, none⟩), vb] b (pt ga ta (u32s A) :: F) (fun _ F' => F' = pt ga ta (u32s (blockM A l)) :: F) := by
  have := block_S (b := b) (F := F) (vb := vb) (A := A) (l := l) (rest := []) (ga := ga) (ta := ta) (by rw [List.append_nil]; exact hb) hl hA
  rwa [List.append_nil, List.append_nil] at this

theorem Write_S {b : World} {F : List SP} {g : Nat} {a rs xs : List Int} {r vb : Value} {n : Int} (ha : a.length = 8) (hn : 0 ≤ n ∧ n ≤ 1048576) (hlen : rs.length + xs.length ≤ 1048576) (hb : ∀ w, Sat b F w → VL (Value.int .u8) w vb xs) :
    SC Try.prog n_p_sha_Hash_Write [.pointer (some ⟨g, 0, none⟩), vb] b (pt g t_sha_Hash (hashC a r n true) :: rB r rs :: F) (fun v F' => v = .int .i64 0 ∧
      ∃ r', F' = pt g t_sha_Hash (hashC (absorb (rs.length + xs.length) a (rs ++ xs)).1 r' (n + xs.length) true) :: rB r' (absorb (rs.length + xs.length) a (rs ++ xs)).2 :: F) := by
  refine enterS F_p_sha_Hash_Write rfl rfl rfl ?_
  refine sw_fact (fun w H => (hb w (H.ent (ent_keep 2 [] rfl rfl))).form) ?_
  rintro ⟨A, c, rfl, h1, h2, h3, h4⟩
  (refine sw_seq ?_; refine sw_region ?_; refine so_1 rfl ?_; refine so_nil ?_; refine sn_then ?_; (iterate 2 refine sw_seq ?_); refine sw_region ?_; refine so_1 rfl ?_)
  refine so_callE rfl rfl rfl (SC.ofEq fun w H => none_spec (H.blk (k := 0) rfl) ha) ?_
  (refine so_nil ?_; refine sn_then ?_; refine sw_cond_f rfl ?_; refine sw_skip ?_; refine sn_then ?_; refine sw_seq ?_; refine sw_region ?_; (iterate 3 refine so_1 rfl ?_))
  refine so_ld 0 rfl rfl rfl rfl rfl rfl (hC9 ha) rfl ?_
  ((iterate 2 refine so_1 rfl ?_); refine so_2 rfl (by (unfold I64; omega)) ?_; (iterate 2 refine so_1 rfl ?_))
  refine so_st 0 rfl rfl rfl rfl rfl rfl rfl rfl (hS9 ha) rfl ?_
  (refine so_nil ?_; refine sn_then ?_; refine sw_seq ?_; refine sw_region ?_; (iterate 4 refine so_1 rfl ?_))
  refine so_ld 0 rfl rfl rfl rfl rfl rfl (hC8 ha) rfl ?_
  (refine so_1 rfl ?_)
  refine so_append 1 rfl rfl rfl rfl rfl rfl rfl rfl rfl (fun w H => hb w (H.ent (ent_keep 2 [] rfl rfl))) (u8s_one _) (by omega) (fun _ => rfl) fun r' => ?_
  rw [rB_app]
  ((iterate 2 refine so_1 rfl ?_))
  refine so_fact (fun w H => (H.oat (k := 1) rfl).one) fun h1 => ?_
  refine so_st 0 rfl rfl rfl rfl rfl rfl h1 rfl (hS8 ha) rfl ?_
  (refine so_nil ?_; refine sn_then ?_; refine sw_seq ?_; refine sw_block ?_)
  refine sw_loop (S := List Int × List Int × Value) (fun s => [(0, .pointer (some ⟨g, 0, none⟩))]) (fun s => pt g t_sha_Hash (hashC s.1 s.2.2 (n + xs.length) true) :: rB s.2.2 s.2.1 :: F)
    (fun s => s.1.length = 8 ∧ s.2.1.length ≤ 1048576 ∧ ∃ k, s.2.1.length ≤ k ∧ absorb k s.1 s.2.1 = absorb (rs.length + xs.length) a (rs ++ xs)) (fun s => s.2.1.length) (a, rs ++ xs, r') ⟨rfl, trivial⟩ (Ent.refl _)
    ⟨ha, by simp; omega, rs.length + xs.length, by simp, rfl⟩ ?_
  rintro ⟨a', l, r2⟩ ⟨ha', hl, k, hk, hab⟩
  dsimp only at ha' hl hk hab ⊢
  refine sw_fact (fun w H => (H.oat (k := 1) rfl).form) ?_
  rintro ⟨A2, c2, rfl, hc1, hc2, hc3⟩
  ((iterate 2 refine sw_seq ?_); refine sw_region ?_; (iterate 3 refine so_1 rfl ?_))
  refine so_ld 0 rfl rfl rfl rfl rfl rfl (hC8 ha') rfl ?_
  ((iterate 2 refine so_1 rfl ?_); refine so_nil ?_; refine sn_then ?_)
  refine sw_if rfl (fun h => ?_) (fun h => ?_)
  · have hl64 : 64 ≤ l.length := by omega
    obtain ⟨g2, off2, rfl⟩ := hc3 (by omega)
    have htk : (u8s l).take (64 * 1) = u8s (l.take 64) := by simp [u8s, List.map_take]
    have hdk : (u8s l).drop (64 * 1) = u8s (l.drop 64) := by simp [u8s, List.map_drop]
    have ht64 : (l.take 64).length = 64 := by simp; omega
    (refine sw_skip ?_; refine sn_then ?_; refine sw_block ?_; refine sw_seq ?_)
    refine sw_draw2 flo 8 (pt g t_sha_Hash (hashC a' (.slice (some ⟨g2, off2, none⟩) l.length c2) (n + xs.length) true) :: F) [] rfl (by decide +kernel) (ent_keep 2 [0] rfl rfl) ?_
    ((iterate 6 refine sd_1 rfl (.inl rfl) ?_))
    refine sd_ld 0 rfl rfl rfl rfl rfl rfl (hC8 ha') rfl rfl ?_
    (refine sd_2 rfl rfl (by omega) ?_)
    refine sd_nil (sn_draw2 rfl (ent_nil _) ?_)
    refine sd_call rfl rfl rfl rfl (block_S (A := a') (l := l.take 64) (rest := [.slice (some ⟨g2, off2, none⟩) l.length c2, .int .i64 (n + xs.length), .bool true]) (fun w H => ?_) (by omega) ha') ?_
    · have := (Oat.take (H.oat (k := 1) rfl) (k := 64) hl64).sl
      rw [htk] at this
      unfold VL; rw [ht64]; exact this
    rintro _ _ rfl
    refine ⟨ent_nil _, sd_nil ?_⟩
    have hb8 := blockM_len a' (l.take 64)
    obtain ⟨a2, ha2⟩ : ∃ a2, a2 = blockM a' (l.take 64) := ⟨_, rfl⟩
    rw [← ha2] at hb8 ⊢
    (refine sn_then ?_; refine sw_region ?_; (iterate 4 refine so_1 rfl ?_))
    refine so_ld 0 rfl rfl rfl rfl rfl rfl (hC8 hb8) rfl ?_
    (refine so_2 rfl (by omega) ?_; (iterate 2 refine so_1 rfl ?_))
    refine so_ent (ent_row_drop (j := 64) hl64 1 rfl rfl rfl) ?_
    rw [hdk]
    refine so_st 0 rfl rfl rfl rfl rfl rfl rfl rfl (hS8 hb8) rfl ?_
    (refine so_nil ?_; refine sn_block ?_)
    refine sn_round (a2, l.drop 64, .slice (if c2 = 64 then some ⟨g2, off2, none⟩ else (some ⟨g2, off2, none⟩ : Option Addr).map (·.add (64 * 1))) (l.length - 64) (c2 - 64)) ⟨rfl, trivial⟩ ?_ ?_ ?_
    · exact ent_set 1 rfl (fun h hA => by have e : (l.drop 64).length = l.length - 64 := by simp
                                          dsimp only [rB]; rw [e]; exact hA) rfl
    · refine ⟨hb8, by simp; omega, ?_⟩
      cases k with
      | zero => omega
      | succ k =>
        refine ⟨k, by simp; omega, ?_⟩
        rw [← hab]
        show _ = absorb (k + 1) a' l
        rw [absorb, if_pos hl64, ha2]
    · show (l.drop 64).length < l.length
      simp; omega
  · (refine sw_exit ?_; refine sn_then_exit ?_; refine sn_loop_exit ?_; refine sn_block_exit ?_; refine sn_then ?_; refine sw_seq ?_; refine sw_region ?_; refine so_1 rfl ?_; refine so_nil ?_; refine sn_then ?_; refine sw_ret ?_)
    have he := absorb_end k a' l (by omega)
    rw [hab] at he
    refine sn_ret rfl (.tmp rfl .nil) (Ent.refl _) ?_
    refine ⟨rfl, .slice A2 l.length c2, ?_⟩
    rw [he]
end Go.Proofs.Ytjfileaidgknjaa
/- Digests, part nine: New, and the digest of what was written. Conditions: not too many bytes. -/
namespace Go.Proofs.Ytjfileaidgknjaa
open Go.Eng Go.RowKit

theorem New_S {b : World} {F : List SP} : SC Try.prog n_sha_New [] b F (fun v F' => ∃ g, v = .pointer (some ⟨g, 0, none⟩) ∧ F' = pt g t_sha_Hash (hashC beginL (.slice none 0 0) 0 true) :: rB (.slice none 0 0) [] :: F) :=
  fun w H => (New_spec w).mono fun _ w' ⟨g, h1, h2, B, x⟩ => ⟨_, _, h1, ⟨g, rfl, rfl⟩, (H.newOat (Fr.refl _ _) (Oat.nil w w.heap.size t_uint8 1)).alloc x B h2⟩

theorem ent_rB {F G : List SP} {v : Value} {n : Nat} {cs : List Value} {l : List Int} (k : Nat) (hk : nth F k = some (row t_uint8 1 v n cs)) (hl : n = l.length) (hc : cs = u8s l) (hG : setF F k (rB v l) = some G) : Ent F G := by
  subst hl; subst hc; exact ent_set k hk (fun _ h => h) hG
theorem vlB {b : World} {F : List SP} {v : Value} {l : List Int} {k : Nat} (hk : nth F k = some (rB v l)) : ∀ w, Sat b F w → VL (Value.int .u8) w v l := fun w H => (H.oat hk).sl
theorem vl1 {b : World} {F : List SP} {g t : Nat} {l : List Int} {n k : Nat} (hn : n = l.length) (hm : n ≤ 67108864) (hk : nth F k = some (pt g t (u8s l))) : ∀ w, Sat b F w → VL (Value.int .u8) w (.slice (some ⟨g, 0, none⟩) n n) l := fun w H => by
  subst hn
  exact (H.blk hk).sl (by simp) hm

theorem u8s_len (l : List Int) : (u8s l).length = l.length := by simp [u8s]
def zeroN (l : List Int) : Nat := (120 - (l.length + 1) % 64) % 64
def lenB (n : Int) (i : Nat) : Int := IntKind.u8.wrap ((IntKind.u64.wrap (IntKind.u64.wrap n * 8)).fdiv (2 ^ (56 - 8 * i)))
def lenL (n : Int) (i : Nat) : List Int := (List.range i).map (lenB n)
def endM (l : List Int) (n : Int) : List Int := l ++ [128] ++ List.replicate (zeroN l) 0 ++ lenL n 8
def idB (a : List Int) (i : Nat) : Int := IntKind.u8.wrap ((a.getD (i / 4) 0).fdiv (2 ^ (24 - 8 * (i % 4))))
def idM (a : List Int) : List Int := (List.range 32).map (idB a)
def idP (a : List Int) (i : Nat) : List Int := (List.range i).map (idB a) ++ List.replicate (32 - i) 0
theorem idP_len (a : List Int) (i : Nat) (h : i ≤ 32) : (idP a i).length = 32 := by simp [idP]; omega
theorem idP_set (a : List Int) (i : Nat) (h : i < 32) : (u8s (idP a i)).set i (.int .u8 (idB a i)) = u8s (idP a (i + 1)) := by
  have e : 32 - i = (32 - (i + 1)) + 1 := by omega
  simp only [u8s, ← List.map_set, idP]
  rw [List.set_append_right _ _ (by simp), e, List.replicate_succ, List.range_succ]
  simp
theorem idP_end (a : List Int) : idP a 32 = idM a := by simp [idP, idM]
theorem endM_len (l : List Int) (n : Int) : (endM l n).length % 64 = 0 ∧ (endM l n).length ≤ l.length + 80 := by
  simp only [endM, lenL, zeroN, List.length_append, List.length_replicate, List.length_map, List.length_range, List.length_cons, List.length_nil]
  omega
def sumA (a l : List Int) (n : Int) : List Int := (absorb (endM l n).length a (endM l n)).1
abbrev idV (l : List Int) : Value := .agg ⟨u8s l⟩
theorem tmod64 (k : Nat) : Int.tmod (k : Int) 64 = ((k % 64 : Nat) : Int) := by
  rw [Int.tmod_eq_emod_of_nonneg (by omega)]; omega
theorem hCw {a : List Int} {r : Value} {n : Int} {m : Bool} (h : a.length = 8) : segO (hashC a r n m) 0 8 = some (u32s a) := by
  match a, h with
  | [_, _, _, _, _, _, _, _], _ => rfl
theorem u32nth {a : List Int} {j : Nat} (h : j < a.length) : nth (u32s a) j = some (.int .u32 (a.getD j 0)) := by rw [nth_eq]; exact u32s_get a j h
theorem stO_ok {cs r : List Value} {o : Nat} {v : Value} (h : o < cs.length) (hr : cs.set o v = r) : stO cs o v = some r := by
  subst hr
  induction cs generalizing o with
  | nil => simp at h
  | cons c cs ih =>
    cases o with
    | zero => rfl
    | succ o => simp only [stO, ih (by simpa using h)]; rfl
theorem segO_all {cs : List Value} {n : Nat} (h : n = cs.length) : segO cs 0 n = some cs := by
  subst h
  induction cs with
  | nil => rfl
  | cons c cs ih => simp only [List.length_cons, segO, ih]

theorem hSumN_S {b : World} {F : List SP} : SC Try.prog n_p_sha_Hash_Sum [.pointer none] b F (fun v F' => v = .tuple ⟨[idV (List.replicate 32 0), .int .i64 1]⟩ ∧ F' = F) := by
  refine enterS F_p_sha_Hash_Sum rfl rfl rfl ?_
  (refine sw_seq ?_; refine sw_region ?_)
  refine so_new rfl rfl rfl rfl rfl fun gi => ?_
  (refine so_1 rfl ?_; refine so_nil ?_; refine sn_then ?_; (iterate 2 refine sw_seq ?_); refine sw_region ?_; refine so_1 rfl ?_)
  refine so_callE rfl rfl rfl (SC.ofEq fun w H => none_nil_spec w) ?_
  (refine so_nil ?_; refine sn_then ?_; refine sw_cond_t rfl ?_; refine sw_seq ?_; refine sw_region ?_; refine so_1 rfl ?_; refine so_s1 0 rfl rfl rfl rfl ?_; refine so_1 rfl ?_; refine so_nil ?_; refine sn_then ?_; refine sw_ret ?_; refine sn_then_ret ?_)
  refine sn_ret rfl (.agg 0 rfl rfl rfl rfl rfl (.tmp rfl .nil)) (ent_keep 1 [] rfl rfl) ?_
  exact ⟨rfl, rfl⟩
end Go.Proofs.Ytjfileaidgknjaa
/- Digests, part ten: the digest of what was written: the walk. Conditions: not too many bytes. -/
namespace Go.Proofs.Ytjfileaidgknjaa
open Go.Eng Go.RowKit

theorem hSum_S {b : World} {F : List SP} {g : Nat} {a rs : List Int} {r : Value} {n : Int} (ha : a.length = 8) (hlen : rs.length ≤ 1000000) :
    SC Try.prog n_p_sha_Hash_Sum [.pointer (some ⟨g, 0, none⟩)] b (pt g t_sha_Hash (hashC a r n true) :: rB r rs :: F) (fun v F' => v = .tuple ⟨[idV (idM (sumA a rs n)), .int .i64 0]⟩ ∧ F' = pt g t_sha_Hash (hashC a r n true) :: rB r rs :: F) := by
  have ha8 : (u32s a).length = 8 := by rw [u32s_len, ha]
  refine enterS F_p_sha_Hash_Sum rfl rfl rfl ?_
  (refine sw_seq ?_; refine sw_region ?_)
  refine so_new rfl rfl rfl rfl rfl fun gi => ?_
  (refine so_1 rfl ?_; refine so_nil ?_; refine sn_then ?_; (iterate 2 refine sw_seq ?_); refine sw_region ?_; refine so_1 rfl ?_)
  refine so_callE rfl rfl rfl (SC.ofEq fun w H => none_spec (H.blk (k := 1) rfl) ha) ?_
  (refine so_nil ?_; refine sn_then ?_; refine sw_cond_f rfl ?_; refine sw_skip ?_; refine sn_then ?_; refine sw_seq ?_; refine sw_region ?_; (iterate 3 refine so_1 rfl ?_))
  refine so_ldA 1 rfl rfl rfl rfl rfl rfl (hCw ha) rfl ?_
  refine so_new rfl rfl rfl rfl rfl fun ga => ?_
  refine so_stW 0 rfl rfl rfl rfl rfl rfl rfl (by rw [ha8]; rfl) (u32s_one _) (by rw [ha8]; rfl) ?_
  (refine so_nil ?_; refine sn_then ?_; refine sw_seq ?_; refine sw_region ?_; (iterate 3 refine so_1 rfl ?_))
  refine so_ld 2 rfl rfl rfl rfl rfl rfl (hC8 ha) rfl ?_
  refine so_call rfl rfl rfl (SC.ofMade fun w H => Clone_spec (vlB (k := 3) rfl w H) (by omega)) ?_
  rintro v4 _ rfl
  refine so_lit [.int .u8 128] rfl rfl rfl rfl rfl rfl rfl rfl rfl fun gl => ?_
  refine so_append 1 rfl rfl rfl rfl rfl rfl rfl rfl rfl (vl1 (l := [128]) (k := 0) rfl (by decide) rfl) (u8s_one [128]) (by simp; omega) (fun _ => rfl) fun v5 => ?_
  refine so_ent ((ent_rB (l := rs ++ [128]) 1 rfl (by simp) (by simp) rfl).trans (ent_keep 6 [1, 2, 3, 4, 5] rfl rfl)) ?_
  (refine so_1 rfl ?_; refine so_nil ?_; refine sn_then ?_; refine sw_seq ?_; refine sw_block ?_)
  -- zeros
  refine sw_loop (S := Nat × Value) (fun s => [(0, .pointer (some ⟨g, 0, none⟩)), (2, .pointer (some ⟨gi, 0, none⟩)), (4, .pointer (some ⟨ga, 0, none⟩)), (5, s.2)])
    (fun s => rB s.2 (rs ++ [128] ++ List.replicate s.1 0) :: pt ga t_sha_words (u32s a) :: pt gi t_api_ID (u8s (List.replicate 32 0)) :: pt g t_sha_Hash (hashC a r n true) :: rB r rs :: F)
    (fun s => s.1 ≤ zeroN rs) (fun s => zeroN rs - s.1) (0, v5) ⟨rfl, rfl, rfl, rfl, trivial⟩ (ent_rB 0 rfl (by simp) (by simp) rfl) (Nat.zero_le _) ?_
  rintro ⟨k, v⟩ hk
  dsimp only at hk ⊢
  have hL : (rs ++ [128] ++ List.replicate k 0).length = rs.length + 1 + k := by simp; omega
  have hz : zeroN rs = (120 - (rs.length + 1) % 64) % 64 := rfl
  refine sw_fact (fun w H => (H.oat (k := 0) rfl).form) ?_
  rintro ⟨A7, c7, rfl, _, _, _⟩
  ((iterate 2 refine sw_seq ?_); refine sw_region ?_; (iterate 2 refine so_1 rfl ?_); refine so_2 rfl (by omega) ?_; refine so_1 rfl ?_; refine so_nil ?_; refine sn_then ?_)
  refine sw_ifn rfl (fun h => ?_) (fun h => ?_) <;> rw [tmod64] at h
  · (refine sw_skip ?_; refine sn_then ?_; refine sw_block ?_; refine sw_region ?_; refine so_1 rfl ?_)
    refine so_lit [.int .u8 0] rfl rfl rfl rfl rfl rfl rfl rfl rfl fun gl => ?_
    refine so_append 1 rfl rfl rfl rfl rfl rfl rfl rfl rfl (vl1 (l := [0]) (k := 0) rfl (by decide) rfl) (u8s_one [0]) (by simp; omega) (fun _ => rfl) fun v8 => ?_
    refine so_ent ((ent_rB (l := rs ++ [128] ++ List.replicate (k + 1) 0) 1 rfl (by simp; omega) (by rw [List.replicate_succ']; simp) rfl).trans (ent_keep 6 [1, 2, 3, 4, 5] rfl rfl)) ?_
    (refine so_1 rfl ?_; refine so_nil ?_; refine sn_block ?_)
    refine sn_round (k + 1, v8) ⟨rfl, rfl, rfl, rfl, trivial⟩ (Ent.refl _) ?_ ?_
    · show k + 1 ≤ zeroN rs
      omega
    · show zeroN rs - (k + 1) < zeroN rs - k
      omega
  have h' : (rs ++ [128] ++ List.replicate k 0).length % 64 = 56 := by omega
  rw [hL] at h'
  obtain rfl : k = zeroN rs := by omega
  (refine sw_exit ?_; refine sn_then_exit ?_; refine sn_loop_exit ?_; refine sn_block_exit ?_; refine sn_then ?_; (iterate 2 refine sw_seq ?_); refine sw_region ?_; refine so_1 rfl ?_; refine so_nil ?_; refine sn_then ?_; refine sw_block ?_)
  -- the length
  generalize hP : rs ++ [128] ++ List.replicate (zeroN rs) 0 = p at *
  have hend : endM rs n = p ++ lenL n 8 := by rw [endM, hP]
  have hpl : p.length ≤ 1000100 := by omega
  refine sw_loop (S := Nat × Value) (fun s => [(0, .pointer (some ⟨g, 0, none⟩)), (2, .pointer (some ⟨gi, 0, none⟩)), (4, .pointer (some ⟨ga, 0, none⟩)), (5, s.2), (29, .int .i64 (s.1 : Int))])
    (fun s => rB s.2 (p ++ lenL n s.1) :: pt ga t_sha_words (u32s a) :: pt gi t_api_ID (u8s (List.replicate 32 0)) :: pt g t_sha_Hash (hashC a r n true) :: rB r rs :: F)
    (fun s => s.1 ≤ 8) (fun s => 8 - s.1) (0, .slice A7 p.length c7) ⟨rfl, rfl, rfl, rfl, rfl, trivial⟩ (ent_rB 0 rfl (by simp [lenL]) (by simp [lenL]) rfl) (Nat.zero_le _) ?_
  rintro ⟨k, v⟩ hk
  dsimp only at hk ⊢
  have hLL : ∀ j, (lenL n j).length = j := fun j => by simp [lenL]
  (refine sw_seq ?_; refine sw_region ?_; refine so_1 rfl ?_; refine so_nil ?_; refine sn_then ?_; refine sw_seq ?_)
  refine sw_if rfl (fun h => ?_) (fun h => ?_)
  · (refine sw_skip ?_; refine sn_then ?_; refine sw_seq ?_; refine sw_block ?_; refine sw_seq ?_; refine sw_region ?_; (iterate 2 refine so_1 rfl ?_); refine so_nil ?_; refine sn_then ?_; refine sw_region ?_; (iterate 4 refine so_1 rfl ?_))
    refine so_ld 3 rfl rfl rfl rfl rfl rfl (hC9 ha) rfl ?_
    ((iterate 3 refine so_1 rfl ?_); (iterate 2 refine so_2 rfl (by (unfold I64; omega)) ?_); refine so_2 rfl (by omega) ?_; refine so_1 rfl ?_)
    have e : min (56 - 8 * (k : Int)).toNat IntKind.u64.bits = 56 - 8 * k := by
      show min _ 64 = _
      omega
    refine so_know 43 (.int .u8 (lenB n k)) rfl (by rw [lenB, e]) ?_
    refine so_lit [.int .u8 (lenB n k)] rfl rfl rfl rfl rfl rfl rfl rfl rfl fun gl => ?_
    refine so_append 1 rfl rfl rfl rfl rfl rfl rfl rfl rfl (vl1 (l := [lenB n k]) (k := 0) rfl (by decide) rfl) (u8s_one [lenB n k]) (by simp [hLL]; omega) (fun _ => rfl) fun v8 => ?_
    refine so_ent ((ent_rB (l := p ++ lenL n (k + 1)) 1 rfl (by simp [hLL]; omega) (by simp [lenL, List.range_succ]) rfl).trans (ent_keep 6 [1, 2, 3, 4, 5] rfl rfl)) ?_
    (refine so_1 rfl ?_; refine so_nil ?_; refine sn_block ?_; refine sn_then ?_; refine sw_region ?_; refine so_2 rfl (by (unfold I64; omega)) ?_; refine so_1 rfl ?_; refine so_nil ?_)
    refine sn_round (k + 1, v8) ⟨rfl, rfl, rfl, rfl, rfl, trivial⟩ (Ent.refl _) ?_ ?_
    · show k + 1 ≤ 8
      omega
    · show 8 - (k + 1) < 8 - k
      omega
  obtain rfl : k = 8 := by omega
  (refine sw_exit ?_; refine sn_then_exit ?_; refine sn_loop_exit ?_; refine sn_block_exit ?_; refine sn_then ?_; refine sw_seq ?_; refine sw_block ?_)
  rw [← hend]
  have hEL := endM_len rs n
  generalize hE : endM rs n = l0 at *
  -- taken in
  refine sw_loop (S := List Int × List Int × Value) (fun s => [(0, .pointer (some ⟨g, 0, none⟩)), (2, .pointer (some ⟨gi, 0, none⟩)), (4, .pointer (some ⟨ga, 0, none⟩)), (5, s.2.2)])
    (fun s => rB s.2.2 s.2.1 :: pt ga t_sha_words (u32s s.1) :: pt gi t_api_ID (u8s (List.replicate 32 0)) :: pt g t_sha_Hash (hashC a r n true) :: rB r rs :: F)
    (fun s => s.1.length = 8 ∧ s.2.1.length % 64 = 0 ∧ s.2.1.length ≤ 1000100 ∧ ∃ k, s.2.1.length ≤ k ∧ absorb k s.1 s.2.1 = absorb l0.length a l0) (fun s => s.2.1.length) (a, l0, v) ⟨rfl, rfl, rfl, rfl, trivial⟩ (Ent.refl _)
    ⟨ha, hEL.1, by dsimp only; omega, l0.length, Nat.le_refl _, rfl⟩ ?_
  rintro ⟨a', l, r2⟩ ⟨ha', hl64, hl, k, hk, hab⟩
  dsimp only at ha' hl hk hab hl64 ⊢
  refine sw_fact (fun w H => (H.oat (k := 0) rfl).form) ?_
  rintro ⟨A2, c2, rfl, hc1, hc2, hc3⟩
  ((iterate 2 refine sw_seq ?_); refine sw_region ?_; (iterate 3 refine so_1 rfl ?_); refine so_nil ?_; refine sn_then ?_)
  refine sw_if rfl (fun h => ?_) (fun h => ?_)
  · have h64 : 64 ≤ l.length := by omega
    obtain ⟨g2, off2, rfl⟩ := hc3 (by omega)
    have htk : (u8s l).take (64 * 1) = u8s (l.take 64) := by simp [u8s, List.map_take]
    have hdk : (u8s l).drop (64 * 1) = u8s (l.drop 64) := by simp [u8s, List.map_drop]
    have ht64 : (l.take 64).length = 64 := by simp; omega
    (refine sw_skip ?_; refine sn_then ?_; refine sw_seq ?_; refine sw_block ?_; refine sw_region ?_; refine so_1 rfl ?_; refine so_2 rfl (by omega) ?_)
    refine so_ent (ent_keep 3 [1, 0, 2] rfl rfl) ?_
    refine so_call rfl rfl rfl (block_S0 (A := a') (l := l.take 64) (fun w H => ?_) (by omega) ha') ?_
    · have := (Oat.take (H.oat (k := 1) rfl) (k := 64) h64).sl
      rw [htk] at this
      unfold VL; rw [ht64]; exact this
    rintro _ _ rfl
    have hb8 := blockM_len a' (l.take 64)
    (refine so_nil ?_; refine sn_block ?_; refine sn_then ?_; refine sw_region ?_; refine so_1 rfl ?_; refine so_2 rfl (by omega) ?_; refine so_1 rfl ?_; refine so_nil ?_)
    refine sn_ent (ent_row_drop (j := 64) h64 1 rfl rfl rfl) ?_
    rw [hdk]
    refine sn_round (blockM a' (l.take 64), l.drop 64, .slice (if c2 = 64 then some ⟨g2, off2, none⟩ else (some ⟨g2, off2, none⟩ : Option Addr).map (·.add (64 * 1))) (l.length - 64) (c2 - 64)) ⟨rfl, rfl, rfl, rfl, trivial⟩ ?_ ?_ ?_
    · exact (ent_rB (l := l.drop 64) 1 rfl (by simp) rfl rfl).trans (ent_keep 3 [1, 0, 2] rfl rfl)
    · refine ⟨hb8, by simp; omega, by simp; omega, ?_⟩
      cases k with
      | zero => omega
      | succ k =>
        refine ⟨k, by simp; omega, ?_⟩
        rw [← hab]
        show _ = absorb (k + 1) a' l
        rw [absorb, if_pos h64]
    · show (l.drop 64).length < l.length
      simp; omega
  have hl0 : l.length < 64 := by omega
  have he := absorb_end k a' l hl0
  rw [hab] at he
  have hsum : sumA a rs n = a' := by rw [sumA, hE, he]
  rw [hsum]
  (refine sw_exit ?_; refine sn_then_exit ?_; refine sn_loop_exit ?_; refine sn_block_exit ?_; refine sn_then ?_; (iterate 2 refine sw_seq ?_); refine sw_region ?_; refine so_1 rfl ?_; refine so_nil ?_; refine sn_then ?_; refine sw_block ?_)
  -- the digest
  refine sw_loop (S := Nat) (fun s => [(0, .pointer (some ⟨g, 0, none⟩)), (2, .pointer (some ⟨gi, 0, none⟩)), (4, .pointer (some ⟨ga, 0, none⟩)), (55, .int .i64 (s : Int))])
    (fun s => pt ga t_sha_words (u32s a') :: pt gi t_api_ID (u8s (idP a' s)) :: pt g t_sha_Hash (hashC a r n true) :: rB r rs :: F)
    (fun s => s ≤ 32) (fun s => 32 - s) 0 ⟨rfl, rfl, rfl, rfl, trivial⟩ (ent_keep 3 [1, 2] rfl rfl) (Nat.zero_le _) ?_
  intro i hi
  have hpl := idP_len a' i hi
  (refine sw_seq ?_; refine sw_region ?_; refine so_1 rfl ?_; refine so_nil ?_; refine sn_then ?_; refine sw_seq ?_)
  refine sw_if rfl (fun h => ?_) (fun h => ?_)
  · (refine sw_skip ?_; refine sn_then ?_; refine sw_seq ?_; refine sw_block ?_; refine sw_seq ?_; refine sw_region ?_; (iterate 2 refine so_1 rfl ?_); refine so_nil ?_; refine sn_then ?_; refine sw_region ?_; (iterate 2 refine so_1 rfl ?_); refine so_2 rfl (by omega) ?_)
    have htd : IntKind.i64.wrap ((i : Int).tdiv 4) = ((i / 4 : Nat) : Int) := by
      rw [Int.tdiv_eq_ediv_of_nonneg (by omega), I64.wrap (by unfold I64; omega)]; omega
    have htm : (i : Int).tmod 4 = ((i % 4 : Nat) : Int) := by
      rw [Int.tmod_eq_emod_of_nonneg (by omega)]; omega
    refine so_ix (i / 4) rfl rfl rfl htd (by omega) ?_
    refine so_ld 0 rfl rfl rfl rfl rfl rfl (by rw [mulz_eq]; simpa using u32nth (a := a') (j := i / 4) (by omega)) rfl ?_
    (refine so_1 rfl ?_; refine so_2 rfl (by omega) ?_; (iterate 2 refine so_2 rfl (by (unfold I64; omega)) ?_); refine so_2 rfl (by omega) ?_; refine so_1 rfl ?_; refine so_2 rfl (by omega) ?_)
    have e : min (24 - 8 * ((i % 4 : Nat) : Int)).toNat IntKind.u32.bits = 24 - 8 * (i % 4) := by
      show min _ 32 = _
      omega
    refine so_know 68 (.int .u8 (idB a' i)) rfl (by simp only [htm, e, idB, List.getD_eq_getElem?_getD]) ?_
    skip
    refine so_st 1 rfl rfl rfl rfl rfl rfl rfl rfl (stO_ok (r := u8s (idP a' (i + 1))) (by rw [mulz_eq]; simp [hpl]; omega) (by rw [mulz_eq]; simpa using idP_set a' i (by omega))) rfl ?_
    (refine so_nil ?_; refine sn_block ?_; refine sn_then ?_; refine sw_region ?_; refine so_2 rfl (by (unfold I64; omega)) ?_; refine so_1 rfl ?_; refine so_nil ?_)
    refine sn_round (i + 1) ⟨rfl, rfl, rfl, rfl, trivial⟩ (Ent.refl _) ?_ ?_
    · show i + 1 ≤ 32
      omega
    · show 32 - (i + 1) < 32 - i
      omega
  obtain rfl : i = 32 := by omega
  rw [idP_end] at *
  generalize idM a' = dg at *
  (refine sw_exit ?_; refine sn_then_exit ?_; refine sn_loop_exit ?_; refine sn_block_exit ?_; refine sn_then ?_; refine sw_seq ?_; refine sw_region ?_)
  have hseg : segO (u8s dg) 0 32 = some (u8s dg) := segO_all (by simp [hpl])
  refine so_ldA 1 rfl rfl rfl rfl rfl rfl hseg rfl ?_
  refine so_stW 1 rfl rfl rfl rfl rfl rfl rfl (by rw [u8s_len, hpl]; rfl) (u8s_one _) rfl ?_
  (refine so_1 rfl ?_; refine so_nil ?_; refine sn_then ?_; refine sw_ret ?_)
  refine sn_ret rfl (.whole 1 rfl rfl rfl rfl (by rw [u8s_len, hpl]; rfl) (.tmp rfl .nil)) (ent_keep 2 [] rfl rfl) ?_
  exact ⟨rfl, rfl⟩
end Go.Proofs.Ytjfileaidgknjaa
/- Digests, part eleven: Sum, Cut, Of, Has, Compare. Conditions: not too many bytes. -/
namespace Go.Proofs.Ytjfileaidgknjaa
open Go.Eng Go.RowKit

instance : EqT Try.prog t_api_ID := ⟨by kernel_rfl⟩
instance : ArrI Try.prog t_api_ID 32 .u8 := by
  obtain ⟨j, hj, hs, _⟩ := TT.info (P := Try.prog) t_uint8 _ rfl
  exact ⟨⟨t_uint8, j, by kernel_rfl, by kernel_rfl, hj, hs⟩⟩

/-- The digest of bytes. -/
def sumM (xs : List Int) : List Int := idM (sumA (absorb xs.length beginL xs).1 (absorb xs.length beginL xs).2 xs.length)
theorem sumM_len (xs : List Int) : (sumM xs).length = 32 := by simp [sumM, idM]
theorem absorb_len (k : Nat) (a l : List Int) (ha : a.length = 8) : (absorb k a l).1.length = 8 ∧ (absorb k a l).2.length ≤ l.length := by
  induction k generalizing a l with
  | zero => exact ⟨ha, Nat.le_refl _⟩
  | succ k ih =>
    rw [absorb]
    split
    · have := ih (blockM a (l.take 64)) (l.drop 64) (blockM_len _ _)
      refine ⟨this.1, Nat.le_trans this.2 (by simp)⟩
    · exact ⟨ha, Nat.le_refl _⟩

theorem segID {l : List Int} (h : l.length = 32) : segO (u8s l) 0 32 = some (u8s l) := segO_all (by simp [h])
theorem Sum_S {b : World} {F : List SP} {vb : Value} {xs : List Int} (hlen : xs.length ≤ 1000000) (hb : ∀ w, Sat b F w → VL (Value.int .u8) w vb xs) :
    SC Try.prog n_sha_Sum [vb] b F (fun v F' => v = idV (sumM xs) ∧ F' = F) := by
  have hsl := sumM_len xs
  have hd : sumM xs = idM (sumA (absorb xs.length beginL xs).1 (absorb xs.length beginL xs).2 xs.length) := rfl
  have hal := absorb_len xs.length beginL xs rfl
  refine enterS F_sha_Sum rfl rfl rfl ?_
  (refine sw_seq ?_; refine sw_region ?_)
  refine so_new rfl rfl rfl rfl rfl fun gi => ?_
  (refine so_nil ?_; refine sn_then ?_; refine sw_seq ?_; refine sw_region ?_)
  refine so_call rfl rfl rfl (New_S) ?_
  rintro _ _ ⟨g, rfl, rfl⟩
  (refine so_1 rfl ?_; refine so_nil ?_; refine sn_then ?_; refine sw_seq ?_; refine sw_region ?_; (iterate 2 refine so_1 rfl ?_))
  refine so_call rfl rfl rfl (Write_S (F := pt gi t_api_ID (u8s (List.replicate 32 0)) :: F) (a := beginL) (rs := []) (n := 0) (xs := xs) rfl (by omega) (by simp; omega) (up hb (ent_keep 1 [] rfl rfl))) ?_
  rintro _ _ ⟨rfl, r', rfl⟩
  (refine so_nil ?_; refine sn_then ?_; refine sw_seq ?_; refine sw_region ?_; refine so_1 rfl ?_)
  have e0 : ([] : List Int).length + xs.length = xs.length := by simp
  have e1 : (0 : Int) + xs.length = xs.length := by simp
  simp only [e0, e1, List.nil_append] at *
  refine so_call rfl rfl rfl (hSum_S hal.1 (by omega)) ?_
  rintro _ _ ⟨rfl, rfl⟩
  rw [← hd]
  generalize sumM xs = d at *
  ((iterate 3 refine so_1 rfl ?_))
  refine so_new rfl rfl rfl rfl rfl fun g4 => ?_
  skip
  refine so_stW 0 rfl rfl rfl rfl rfl rfl rfl (by rw [u8s_len, hsl]; rfl) (u8s_one _) (by simp [hsl]) ?_
  (refine so_1 rfl ?_; refine so_nil ?_; refine sn_then ?_; refine sw_seq ?_; refine sw_region ?_)
  refine so_ldA 0 rfl rfl rfl rfl rfl rfl (segID hsl) rfl ?_
  refine so_stW 3 rfl rfl rfl rfl rfl rfl rfl (by rw [u8s_len, hsl]; rfl) (u8s_one _) (by simp [hsl]) ?_
  (refine so_nil ?_; refine sn_then ?_; refine sw_ret ?_)
  refine sn_ret rfl (.whole 3 rfl rfl rfl rfl (by rw [u8s_len, hsl]; rfl) .nil) (ent_keep 4 [] rfl rfl) ?_
  exact ⟨rfl, rfl⟩

/-- Cut to a width. -/
def cutM (l : List Int) (n : Nat) : List Int := l.take n ++ List.replicate (32 - n) 0
theorem cutM_len (l : List Int) (n : Nat) (h : l.length = 32) (hn : n ≤ 32) : (cutM l n).length = 32 := by simp [cutM, h]; omega
def cutR (l : List Int) (w : Int) : List Int := if w < 1 ∨ 32 < w then List.replicate 32 0 else cutM l w.toNat
def cutE (w : Int) : Int := if w < 1 ∨ 32 < w then 3 else 0
theorem cutR_len (l : List Int) (w : Int) (h : l.length = 32) : (cutR l w).length = 32 := by
  unfold cutR; split
  · simp
  · exact cutM_len l _ h (by omega)
theorem Cut_S {b : World} {F : List SP} {l : List Int} {w : Int} (hl : l.length = 32) :
    SC Try.prog n_sha_Cut [idV l, .int .i64 w] b F (fun v F' => v = .tuple ⟨[idV (cutR l w), .int .i64 (cutE w)]⟩ ∧ F' = F) := by
  refine enterS F_sha_Cut rfl rfl rfl ?_
  (refine sw_seq ?_; refine sw_region ?_)
  refine so_box rfl rfl rfl rfl rfl fun g2 => ?_
  refine so_new rfl rfl rfl rfl rfl fun g4 => ?_
  (refine so_1 rfl ?_; refine so_nil ?_; refine sn_then ?_; (iterate 2 refine sw_seq ?_); refine sw_region ?_; (iterate 3 refine so_1 rfl ?_))
  refine so_if 8 rfl (fun h => ?_) (fun h => ?_)
  · ((iterate 3 refine so_1 rfl ?_); refine so_nil ?_; refine sn_then ?_; refine sw_cond_t rfl ?_; refine sw_seq ?_; refine sw_region ?_; refine so_1 rfl ?_; refine so_s1 0 rfl rfl rfl rfl ?_; refine so_1 rfl ?_; refine so_nil ?_; refine sn_then ?_; refine sw_ret ?_; refine sn_then_ret ?_)
    refine sn_ret rfl (.agg 0 rfl rfl rfl rfl rfl (.tmp rfl .nil)) (ent_keep 2 [] rfl rfl) ?_
    exact ⟨by rw [cutR, cutE, if_pos (.inl h), if_pos (.inl h)]; rfl, rfl⟩
  ((iterate 3 refine so_1 rfl ?_); refine so_nil ?_; refine sn_then ?_)
  refine sw_if rfl (fun h' => ?_) (fun h' => ?_)
  · (refine sw_seq ?_; refine sw_region ?_; refine so_1 rfl ?_; refine so_s1 0 rfl rfl rfl rfl ?_; refine so_1 rfl ?_; refine so_nil ?_; refine sn_then ?_; refine sw_ret ?_; refine sn_then_ret ?_)
    refine sn_ret rfl (.agg 0 rfl rfl rfl rfl rfl (.tmp rfl .nil)) (ent_keep 2 [] rfl rfl) ?_
    exact ⟨by rw [cutR, cutE, if_pos (.inr h'), if_pos (.inr h')]; rfl, rfl⟩
  (refine sw_skip ?_; refine sn_then ?_; refine sw_seq ?_; refine sw_region ?_; refine so_1 rfl ?_; refine so_2 rfl (by omega) ?_)
  have hw : (32 - w.toNat : Nat) ≤ 32 := by omega
  have hcut : spl (u8s l) (if 32 = w.toNat then 0 else 0 + w.toNat * 1) (List.replicate (((32 : Nat) : Int).toNat - w.toNat) (.int .u8 0)) = u8s (cutM l w.toNat) := by
    by_cases h32 : 32 = w.toNat
    · rw [if_pos h32, ← h32]; simp [spl, cutM, u8s, hl]; rw [List.take_of_length_le (by simp [hl])]
    · rw [if_neg h32]
      have e1 : 0 + w.toNat * 1 = w.toNat := by omega
      have e2 : ((32 : Nat) : Int).toNat - w.toNat = 32 - w.toNat := by omega
      have e3 : w.toNat + (32 - w.toNat) = 32 := by omega
      rw [e1, e2]
      simp [spl, cutM, u8s, e3, hl]
  refine so_clear 1 rfl rfl rfl rfl rfl rfl rfl rfl (by simp [hl]; split <;> omega) ?_
  rw [hcut]
  have hcl := cutM_len l w.toNat hl (by omega)
  have hR : cutR l w = cutM l w.toNat := by rw [cutR, if_neg (by omega)]
  have hE : cutE w = 0 := by rw [cutE, if_neg (by omega)]
  rw [hR, hE]
  generalize cutM l w.toNat = d at *
  (refine so_nil ?_; refine sn_then ?_; refine sw_seq ?_; refine sw_region ?_)
  refine so_ldA 1 rfl rfl rfl rfl rfl rfl (segID hcl) rfl ?_
  refine so_stW 0 rfl rfl rfl rfl rfl rfl rfl (by rw [u8s_len, hcl]; rfl) (u8s_one _) (by simp [hcl]) ?_
  (refine so_1 rfl ?_; refine so_nil ?_; refine sn_then ?_; refine sw_ret ?_)
  refine sn_ret rfl (.whole 0 rfl rfl rfl rfl (by rw [u8s_len, hcl]; rfl) (.tmp rfl .nil)) (ent_keep 2 [] rfl rfl) ?_
  exact ⟨rfl, rfl⟩

theorem Of_S {b : World} {F : List SP} {vb : Value} {xs : List Int} {w : Int} (hlen : xs.length ≤ 1000000) (hb : ∀ w, Sat b F w → VL (Value.int .u8) w vb xs) :
    SC Try.prog n_sha_Of [vb, .int .i64 w] b F (fun v F' => v = .tuple ⟨[idV (cutR (sumM xs) w), .int .i64 (cutE w)]⟩ ∧ F' = F) := by
  have hcl := cutR_len (sumM xs) w (sumM_len xs)
  refine enterS F_sha_Of rfl rfl rfl ?_
  (refine sw_seq ?_; refine sw_region ?_)
  refine so_new rfl rfl rfl rfl rfl fun g4 => ?_
  (refine so_1 rfl ?_; refine so_nil ?_; refine sn_then ?_; refine sw_seq ?_; refine sw_region ?_; refine so_1 rfl ?_)
  refine so_callE rfl rfl rfl (Sum_S hlen (up hb (ent_keep 1 [] rfl rfl))) ?_
  (refine so_1 rfl ?_)
  refine so_callE rfl rfl rfl (Cut_S (sumM_len xs)) ?_
  generalize cutR (sumM xs) w = d at *
  ((iterate 2 refine so_1 rfl ?_))
  refine so_stW 0 rfl rfl rfl rfl rfl rfl rfl (by rw [u8s_len, hcl]; rfl) (u8s_one _) (by simp [hcl]) ?_
  (refine so_1 rfl ?_; refine so_nil ?_; refine sn_then ?_; refine sw_ret ?_)
  refine sn_ret rfl (.whole 0 rfl rfl rfl rfl (by rw [u8s_len, hcl]; rfl) (.tmp rfl .nil)) (ent_keep 1 [] rfl rfl) ?_
  exact ⟨rfl, rfl⟩

/-- Has a digest a width? -/
def hasM (l : List Int) (w : Int) : Bool := decide (cutE w = 0) && decide (cutR l w = l)
end Go.Proofs.Ytjfileaidgknjaa
/- Digests, part twelve: texts, and which digest is less. Conditions: cells are bytes. -/
namespace Go.Proofs.Ytjfileaidgknjaa
open Go.Eng Go.RowKit

def byteW (l : List Int) : Prop := ∀ c ∈ l, 0 ≤ c ∧ c < 256
/-- A digit. -/
def hx (n : Int) : Int := if n < 10 then 48 + n else 87 + n
def hexD : List UInt8 := [48, 49, 50, 51, 52, 53, 54, 55, 56, 57, 97, 98, 99, 100, 101, 102]
theorem hexD_get : ∀ n : Fin 16, ((hexD.getD n.val 0).toNat : Int) = hx (n.val : Int) := by decide +kernel
theorem and15 : ∀ c : Fin 256, bitv .and .u8 (c.val : Int) 15 = ((c.val % 16 : Nat) : Int) := by decide +kernel
theorem and15' {c : Int} (h : 0 ≤ c ∧ c < 256) : bitv .and .u8 c 15 = c % 16 := by
  have := and15 ⟨c.toNat, by omega⟩
  dsimp only at this
  rw [show ((c.toNat : Nat) : Int) = c by omega] at this
  rw [this]; omega
theorem shr4 (c : Int) : c.fdiv (2 ^ min (4 : Int).toNat IntKind.u8.bits) = c / 16 := by
  show c.fdiv 16 = c / 16
  rw [Int.fdiv_eq_ediv_of_nonneg _ (by decide)]
def textL (id : List Int) : List Int := id.flatMap fun c => [hx (c / 16), hx (c % 16)]
theorem textL_len (id : List Int) : (textL id).length = 2 * id.length := by
  induction id with
  | nil => rfl
  | cons c id ih => simp only [textL, List.flatMap_cons, List.length_append] at ih ⊢; rw [ih]; simp; omega
theorem textL_take (id : List Int) (i : Nat) (h : i < id.length) : textL (id.take (i + 1)) = textL (id.take i) ++ [hx (id[i] / 16), hx (id[i] % 16)] := by
  have e : id.take (i + 1) = id.take i ++ [id[i]] := by rw [List.take_add_one, List.getElem?_eq_getElem h]; rfl
  rw [e]
  simp only [textL, List.flatMap_append]
  rfl
theorem getD_nat {l : List Value} {i : Nat} {v : Value} (h : l[i]? = some v) : l.getD ((i : Int)).toNat undef = v := by
  rw [Int.toNat_natCast, List.getD_eq_getElem?_getD, h]; rfl
theorem hex_at {n : Int} (h : 0 ≤ n ∧ n < 16) : ((hexD.getD n.toNat 0).toNat : Int) = hx n := by
  have := hexD_get ⟨n.toNat, by omega⟩
  dsimp only at this
  rw [this]; congr 1; omega

end Go.Proofs.Ytjfileaidgknjaa
/- Digests, part thirteen: what a text is; which digest is less. Conditions: cells are bytes. -/
namespace Go.Proofs.Ytjfileaidgknjaa
open Go.Eng Go.RowKit

abbrev u8l (xs : List Int) : List UInt8 := xs.map fun n => UInt8.ofNat n.toNat
/-- A digit's number, below 0 if it is none. -/
def dig (c : Int) : Int := if 48 ≤ c ∧ c ≤ 57 then c - 48 else if 97 ≤ c ∧ c ≤ 102 then c - 87 else -1
def hexI : List Int := [48, 49, 50, 51, 52, 53, 54, 55, 56, 57, 97, 98, 99, 100, 101, 102]
theorem dig_ix : ∀ c : Fin 256, Lib.indexByte (u8l hexI) ((c.val : Int).toNat.toUInt8) = dig (c.val : Int) := by decide +kernel
theorem dig_ix' {c : Int} (h : 0 ≤ c ∧ c < 256) : Lib.indexByte (u8l hexI) c.toNat.toUInt8 = dig c := by
  have := dig_ix ⟨c.toNat, by omega⟩
  dsimp only at this
  rwa [show ((c.toNat : Nat) : Int) = c by omega] at this
theorem dig_lt (c : Int) : -1 ≤ dig c ∧ dig c < 16 := by
  unfold dig; split
  · omega
  · split <;> omega
/-- What a text is. -/
def readB (s : List Int) (i : Nat) : Int := 16 * dig (s.getD (2 * i) 0) + dig (s.getD (2 * i + 1) 0)
def okD (s : List Int) (i : Nat) : Prop := 0 ≤ dig (s.getD (2 * i) 0) ∧ 0 ≤ dig (s.getD (2 * i + 1) 0)
instance (s : List Int) (i : Nat) : Decidable (okD s i) := inferInstanceAs (Decidable (_ ∧ _))
def okR (s : List Int) : Prop := s.length = 64 ∧ ∀ i, i < 32 → okD s i
instance (s : List Int) : Decidable (okR s) := inferInstanceAs (Decidable (_ ∧ _))
def readI (s : List Int) : List Int := if okR s then (List.range 32).map (readB s) else List.replicate 32 0
def readE (s : List Int) : Int := if okR s then 0 else 5
theorem readI_len (s : List Int) : (readI s).length = 32 := by unfold readI; split <;> simp
def rdP (s : List Int) (i : Nat) : List Int := (List.range i).map (readB s) ++ List.replicate (32 - i) 0
theorem rdP_len (s : List Int) (i : Nat) (h : i ≤ 32) : (rdP s i).length = 32 := by simp [rdP]; omega
theorem rdP_set (s : List Int) (i : Nat) (h : i < 32) : (u8s (rdP s i)).set i (.int .u8 (readB s i)) = u8s (rdP s (i + 1)) := by
  have e : 32 - i = (32 - (i + 1)) + 1 := by omega
  simp only [u8s, ← List.map_set, rdP]
  rw [List.set_append_right _ _ (by simp), e, List.replicate_succ, List.range_succ]
  simp
theorem strI_get (s : ByteArray) (i : Nat) : ((s.data.toList.getD i 0).toNat : Int) = (strI s).getD i 0 := by
  simp only [strI, List.getD_eq_getElem?_getD, List.getElem?_map]
  cases s.data.toList[i]? <;> rfl
theorem strI_byte (s : ByteArray) (i : Nat) : 0 ≤ (strI s).getD i 0 ∧ (strI s).getD i 0 < 256 := by
  rw [← strI_get]
  have := (s.data.toList.getD i 0).toNat_lt
  omega
theorem nibble : ∀ a b : Fin 16, IntKind.u8.wrap (bitv .or .i64 (IntKind.i64.wrap ((a.val : Int) * 2 ^ min (4 : Int).toNat IntKind.i64.bits)) (b.val : Int)) = 16 * (a.val : Int) + (b.val : Int) := by decide +kernel
theorem nibble' {a b : Int} (ha : 0 ≤ a ∧ a < 16) (hb : 0 ≤ b ∧ b < 16) : IntKind.u8.wrap (bitv .or .i64 (IntKind.i64.wrap (a * 2 ^ min (4 : Int).toNat IntKind.i64.bits)) b) = 16 * a + b := by
  have := nibble ⟨a.toNat, by omega⟩ ⟨b.toNat, by omega⟩
  dsimp only at this
  rwa [show ((a.toNat : Nat) : Int) = a by omega, show ((b.toNat : Nat) : Int) = b by omega] at this

def cmpM (x y : List Int) : Int := Lib.compareBytes (u8l x) (u8l y)
end Go.Proofs.Ytjfileaidgknjaa
/- Digests, part fourteen: the document's answers: Cut, digits, which one is less. Conditions: cells are bytes. -/
namespace Go.Proofs.Ytjfileaidgknjaa
open Go.Eng Go.RowKit

def zP (l : List Int) (w i : Nat) : List Int := l.take w ++ List.replicate (i - w) 0 ++ l.drop i
theorem zP_len (l : List Int) (w i : Nat) (h : l.length = 32) (hw : w ≤ i) (hi : i ≤ 32) : (zP l w i).length = 32 := by simp [zP, h]; omega
theorem zP_set (l : List Int) (w i : Nat) (h : l.length = 32) (hw : w ≤ i) (hi : i < 32) : (u8s (zP l w i)).set i (.int .u8 0) = u8s (zP l w (i + 1)) := by
  have e : i + 1 - w = (i - w) + 1 := by omega
  simp only [u8s, ← List.map_set, zP]
  rw [List.set_append_right _ _ (by simp [h]; omega), e, List.replicate_succ', List.drop_eq_getElem_cons (by omega : i < l.length)]
  have e2 : i - (l.take w ++ List.replicate (i - w) 0).length = 0 := by simp [h]; omega
  rw [e2]
  simp only [List.set_cons_zero, List.append_assoc, List.cons_append, List.nil_append]

theorem refCut_S {b : World} {F : List SP} {l : List Int} {w : Int} (hl : l.length = 32) :
    SC Try.prog n_entrepotref02_Cut [idV l, .int .i64 w] b F (fun v F' => v = .tuple ⟨[idV (cutR l w), .int .i64 (cutE w)]⟩ ∧ F' = F) := by
  refine enterS F_entrepotref02_Cut rfl rfl rfl ?_
  (refine sw_seq ?_; refine sw_region ?_)
  refine so_box rfl rfl rfl rfl rfl fun g2 => ?_
  refine so_new rfl rfl rfl rfl rfl fun g4 => ?_
  (refine so_1 rfl ?_; refine so_nil ?_; refine sn_then ?_; (iterate 2 refine sw_seq ?_); refine sw_region ?_; (iterate 3 refine so_1 rfl ?_))
  refine so_if 9 rfl (fun h => ?_) (fun h => ?_)
  · ((iterate 3 refine so_1 rfl ?_); refine so_nil ?_; refine sn_then ?_; refine sw_cond_t rfl ?_; refine sw_seq ?_; refine sw_region ?_; refine so_1 rfl ?_; refine so_s1 0 rfl rfl rfl rfl ?_; refine so_1 rfl ?_; refine so_nil ?_; refine sn_then ?_; refine sw_ret ?_; refine sn_then_ret ?_)
    refine sn_ret rfl (.agg 0 rfl rfl rfl rfl rfl (.tmp rfl .nil)) (ent_keep 2 [] rfl rfl) ?_
    exact ⟨by rw [cutR, cutE, if_pos (.inl h), if_pos (.inl h)]; rfl, rfl⟩
  ((iterate 3 refine so_1 rfl ?_); refine so_nil ?_; refine sn_then ?_)
  refine sw_if rfl (fun h' => ?_) (fun h' => ?_)
  · (refine sw_seq ?_; refine sw_region ?_; refine so_1 rfl ?_; refine so_s1 0 rfl rfl rfl rfl ?_; refine so_1 rfl ?_; refine so_nil ?_; refine sn_then ?_; refine sw_ret ?_; refine sn_then_ret ?_)
    refine sn_ret rfl (.agg 0 rfl rfl rfl rfl rfl (.tmp rfl .nil)) (ent_keep 2 [] rfl rfl) ?_
    exact ⟨by rw [cutR, cutE, if_pos (.inr h'), if_pos (.inr h')]; rfl, rfl⟩
  obtain ⟨m, rfl⟩ : ∃ m : Nat, w = (m : Int) := ⟨w.toNat, by omega⟩
  (refine sw_skip ?_; refine sn_then ?_; (iterate 2 refine sw_seq ?_); refine sw_region ?_; (iterate 2 refine so_1 rfl ?_); refine so_nil ?_; refine sn_then ?_; refine sw_block ?_)
  refine sw_loop (S := Nat) (fun i => [(2, .pointer (some ⟨g2, 0, none⟩)), (4, .pointer (some ⟨g4, 0, none⟩)), (6, .int .i64 (i : Int))]) (fun i => pt g2 t_api_ID (u8s (zP l m i)) :: pt g4 t_api_ID (u8s (List.replicate 32 0)) :: F) (fun i => m ≤ i ∧ i ≤ 32) (fun i => 32 - i) m ⟨rfl, rfl, rfl, trivial⟩ ?_ ⟨Nat.le_refl _, by omega⟩ ?_
  · have : zP l m m = l := by simp [zP]
    rw [this]; exact ent_keep 2 [1, 0] rfl rfl
  rintro i ⟨h1, h2⟩
  have hzl := zP_len l m i hl h1 h2
  ((iterate 2 refine sw_seq ?_); refine sw_region ?_; (iterate 2 refine so_1 rfl ?_); refine so_nil ?_; refine sn_then ?_)
  refine sw_if rfl (fun h3 => ?_) (fun h3 => ?_)
  · (refine sw_skip ?_; refine sn_then ?_; refine sw_seq ?_; refine sw_block ?_; refine sw_region ?_; refine so_1 rfl ?_; refine so_2 rfl (by omega) ?_)
    refine so_st 0 rfl rfl rfl rfl rfl rfl rfl rfl (stO_ok (r := u8s (zP l m (i + 1))) (by rw [mulz_eq]; simp [hzl]; omega) (by rw [mulz_eq]; simpa using zP_set l m i hl h1 (by omega))) rfl ?_
    (refine so_nil ?_; refine sn_block ?_; refine sn_then ?_; refine sw_region ?_; refine so_1 rfl ?_; refine so_2 rfl (by (unfold I64; omega)) ?_; refine so_1 rfl ?_; refine so_nil ?_)
    refine sn_round (i + 1) ⟨rfl, rfl, rfl, trivial⟩ (Ent.refl _) ⟨by omega, by omega⟩ ?_
    show 32 - (i + 1) < 32 - i
    omega
  obtain rfl : i = 32 := by omega
  have hR : zP l m 32 = cutR l m := by rw [cutR, if_neg (by omega), cutM, zP, Int.toNat_natCast, List.drop_of_length_le (by omega), List.append_nil]
  have hE : cutE m = 0 := by rw [cutE, if_neg (by omega)]
  have hcl := cutR_len l m hl
  rw [hR] at *
  rw [hE]
  generalize cutR l m = d at *
  (refine sw_exit ?_; refine sn_then_exit ?_; refine sn_loop_exit ?_; refine sn_block_exit ?_; refine sn_then ?_; refine sw_seq ?_; refine sw_region ?_)
  refine so_ldA 0 rfl rfl rfl rfl rfl rfl (segID hcl) rfl ?_
  refine so_stW 1 rfl rfl rfl rfl rfl rfl rfl (by rw [u8s_len, hcl]; rfl) (u8s_one _) (by simp [hcl]) ?_
  (refine so_1 rfl ?_; refine so_nil ?_; refine sn_then ?_; refine sw_ret ?_)
  refine sn_ret rfl (.whole 1 rfl rfl rfl rfl (by rw [u8s_len, hcl]; rfl) (.tmp rfl .nil)) (ent_keep 2 [] rfl rfl) ?_
  exact ⟨rfl, rfl⟩

/-- The document's digit. -/
def digR (c : Int) : Int := if dig c < 0 then 16 else dig c
theorem digR_a {c : Int} (h : 48 ≤ c ∧ c ≤ 57) : digR c = c - 48 := by
  have : dig c = c - 48 := by rw [dig, if_pos h]
  rw [digR, this, if_neg (by omega)]
theorem digR_b {c : Int} (h : 97 ≤ c ∧ c ≤ 102) : digR c = c - 87 := by
  have : dig c = c - 87 := by rw [dig, if_neg (by omega), if_pos h]
  rw [digR, this, if_neg (by omega)]
theorem digR_n {c : Int} (h : ¬ (48 ≤ c ∧ c ≤ 57)) (h' : ¬ (97 ≤ c ∧ c ≤ 102)) : digR c = 16 := by
  have : dig c = -1 := by rw [dig, if_neg h, if_neg h']
  rw [digR, this, if_pos (by omega)]
theorem wrap_small : ∀ c : Fin 256, IntKind.u8.wrap (c.val : Int) = (c.val : Int) := by decide +kernel
theorem wrap_small' {c : Int} (h : 0 ≤ c ∧ c < 256) : IntKind.u8.wrap c = c := by
  have := wrap_small ⟨c.toNat, by omega⟩
  dsimp only at this
  rwa [show ((c.toNat : Nat) : Int) = c by omega] at this
/-- Which list is less. -/
def cmpI : List Int → List Int → Int
  | [], [] => 0
  | [], _ :: _ => -1
  | _ :: _, [] => 1
  | a :: x, b :: y => if a < b then -1 else if b < a then 1 else cmpI x y
theorem u8lt : ∀ a b : Fin 256, (UInt8.ofNat a.val < UInt8.ofNat b.val) = (a.val < b.val) := by
  intro a b
  simp only [UInt8.lt_iff_toNat_lt, UInt8.toNat_ofNat']
  rw [Nat.mod_eq_of_lt (by omega), Nat.mod_eq_of_lt (by omega)]
theorem u8lt' {a b : Int} (ha : 0 ≤ a ∧ a < 256) (hb : 0 ≤ b ∧ b < 256) : (UInt8.ofNat a.toNat < UInt8.ofNat b.toNat) = (a < b) := by
  have := u8lt ⟨a.toNat, by omega⟩ ⟨b.toNat, by omega⟩
  dsimp only at this
  rw [this]
  exact propext (by omega)
theorem cmpM_I : ∀ {x y : List Int}, byteW x → byteW y → cmpM x y = cmpI x y
  | [], [], _, _ => rfl
  | [], _ :: _, _, _ => rfl
  | _ :: _, [], _, _ => rfl
  | a :: x, b :: y, hx, hy => by
    have ih := cmpM_I (x := x) (y := y) (fun c hc => hx c (List.mem_cons_of_mem _ hc)) (fun c hc => hy c (List.mem_cons_of_mem _ hc))
    have ha := hx a List.mem_cons_self
    have hb := hy b List.mem_cons_self
    unfold cmpM at ih
    simp only [cmpM, u8l, List.map_cons, Lib.compareBytes, cmpI, u8lt' ha hb, u8lt' hb ha] at ih ⊢
    split
    · rfl
    · split
      · rfl
      · exact ih
theorem cmpI_at : ∀ {x y : List Int} (i : Nat) (h1 : i < x.length) (h2 : i < y.length), x.take i = y.take i → cmpI x y = if x[i] < y[i] then -1 else if y[i] < x[i] then 1 else cmpI (x.drop (i + 1)) (y.drop (i + 1))
  | [], _, _, h1, _, _ => absurd h1 (by simp)
  | _ :: _, [], _, _, h2, _ => absurd h2 (by simp)
  | a :: x, b :: y, 0, _, _, _ => by simp [cmpI]
  | a :: x, b :: y, i + 1, h1, h2, h => by
    simp only [List.take_succ_cons, List.cons.injEq] at h
    obtain ⟨rfl, h⟩ := h
    have := cmpI_at i (by simpa using h1) (by simpa using h2) h
    simp only [cmpI, Int.lt_irrefl, if_false, List.getElem_cons_succ, List.drop_succ_cons]
    exact this
theorem cmpI_self : ∀ x : List Int, cmpI x x = 0
  | [] => rfl
  | a :: x => by simp only [cmpI, Int.lt_irrefl, if_false]; exact cmpI_self x

end Go.Proofs.Ytjfileaidgknjaa
/- Digests, part fifteen: the document's answers: texts. Conditions: cells are bytes. -/
namespace Go.Proofs.Ytjfileaidgknjaa
open Go.Eng Go.RowKit

theorem strOf_app (x y : List Int) : strOfNums x ++ strOfNums y = strOfNums (x ++ y) := by
  apply ByteArray.ext
  simp [strOfNums, ByteArray.data_append]
def hexS : ByteArray := ⟨#[48, 49, 50, 51, 52, 53, 54, 55, 56, 57, 97, 98, 99, 100, 101, 102]⟩
theorem hexS_ext : ∀ n : Fin 16, (hexS.extract n.val (n.val + 1)).data = (strOfNums [hx (n.val : Int)]).data := by decide +kernel
theorem hexS_ext' {n : Int} (h : 0 ≤ n ∧ n < 16) : hexS.extract n.toNat (n + 1).toNat = strOfNums [hx n] := by
  have := hexS_ext ⟨n.toNat, by omega⟩
  dsimp only at this
  rw [show (n + 1).toNat = n.toNat + 1 by omega]
  apply ByteArray.ext
  rw [this, show ((n.toNat : Nat) : Int) = n by omega]
theorem hexS_size : hexS.size = 16 := rfl

theorem nibbleR : ∀ a b : Fin 16, bitv .or .u8 (IntKind.u8.wrap ((a.val : Int) * 2 ^ min (4 : Int).toNat IntKind.u8.bits)) (b.val : Int) = 16 * (a.val : Int) + (b.val : Int) := by decide +kernel
theorem nibbleR' {a b : Int} (ha : 0 ≤ a ∧ a < 16) (hb : 0 ≤ b ∧ b < 16) : bitv .or .u8 (IntKind.u8.wrap (a * 2 ^ min (4 : Int).toNat IntKind.u8.bits)) b = 16 * a + b := by
  have := nibbleR ⟨a.toNat, by omega⟩ ⟨b.toNat, by omega⟩
  dsimp only at this
  rwa [show ((a.toNat : Nat) : Int) = a by omega, show ((b.toNat : Nat) : Int) = b by omega] at this
theorem digR_16 {c : Int} : digR c = 16 ↔ dig c < 0 := by
  have := dig_lt c
  unfold digR; split <;> omega
theorem digR_ok {c : Int} (h : ¬ digR c = 16) : digR c = dig c ∧ 0 ≤ dig c := by
  rw [digR_16] at h
  exact ⟨by rw [digR, if_neg h], by omega⟩

end Go.Proofs.Ytjfileaidgknjaa
/- Digests, part sixteen: the document's block. Conditions: the bytes may be read. -/
namespace Go.Proofs.Ytjfileaidgknjaa
open Go.Eng Go.RowKit

theorem add32_comm (a b : Int) : add32 a b = add32 b a := by rw [add32, add32, Int.add_comm]
theorem wc_at {l : List Int} {i k : Nat} {z : Int} (hz : z.toNat = k) (h : k < i) : nth (wCells l i) (0 + mulz z.toNat 1) = some (.int .u32 ((schedL l i).getD k 0)) := by
  rw [mulz_eq, hz, nth_eq]; simpa using wCells_get l i k h
theorem wc_st {l : List Int} {i : Nat} (h : i < 64) : stO (wCells l i) (0 + mulz (i : Int).toNat 1) (.int .u32 (wNext l (schedL l i) i)) = some (wCells l (i + 1)) :=
  stO_ok (by rw [mulz_eq, wCells_len l i (by omega)]; simp; omega) (by rw [mulz_eq]; simpa using wCells_set l i h)
theorem u32at {a : List Int} {k : Nat} {z : Int} (hz : z.toNat = k) (h : k < a.length) : nth (u32s a) (0 + mulz z.toNat 1) = some (.int .u32 (a.getD k 0)) := by
  rw [mulz_eq, hz]; simpa using u32nth h
theorem seg32 {a : List Int} {n : Nat} (h : n = a.length) : segO (u32s a) 0 n = some (u32s a) := segO_all (by rw [u32s_len]; exact h)

theorem rd_at {b : World} {F : List SP} {bk off n c : Nat} {l : List Int} (hb : ∀ w, Sat b F w → VL (Value.int .u8) w (.slice (some ⟨bk, off, none⟩) n c) l) {k : Nat} {z : Int} (hz : z.toNat = k) (hk : k < l.length) :
    ∀ w, Sat b F w → w.cell? ⟨bk, off + mulz z.toNat 1, none⟩ = some (.int .u8 (byteL l k)) := fun w H => by
  rw [mulz_eq, hz, Nat.mul_one, (hb w H).at k hk, byteL, List.getD_eq_getElem?_getD, List.getElem?_eq_getElem hk]; rfl

set_option maxHeartbeats 1000000 in
theorem refblock_S {b : World} {F : List SP} {vb : Value} {A l : List Int} (hb : ∀ w, Sat b F w → VL (Value.int .u8) w vb l) (hl : 64 ≤ l.length) (hA : A.length = 8) :
    SC Try.prog n_entrepotref02_block [.agg ⟨u32s A⟩, vb] b F (fun v F' => v = .agg ⟨u32s (blockM A l)⟩ ∧ F' = F) := by
  have hM : blockM A l = upd A (rnds (toW A) keyL (schedL l 64) 64).l 8 := rfl
  have hA8 : (u32s A).length = 8 := by rw [u32s_len, hA]
  refine enterS F_entrepotref02_block rfl rfl rfl ?_
  refine sw_fact (fun w H => (hb w H).form) ?_
  rintro ⟨bA, c, rfl, hnc, hcm, hz, hcell⟩
  obtain ⟨bk, off, rfl⟩ := hcell (by omega)
  (refine sw_seq ?_; refine sw_region ?_)
  refine so_box rfl rfl rfl rfl rfl fun g2 => ?_
  refine so_new rfl rfl rfl rfl rfl fun g4 => ?_
  (refine so_nil ?_; refine sn_then ?_; refine sw_seq ?_; refine sw_region ?_)
  refine so_new rfl rfl rfl rfl rfl fun g5 => ?_
  (refine so_nil ?_; refine sn_then ?_; (iterate 2 refine sw_seq ?_); refine sw_region ?_; refine so_1 rfl ?_; refine so_nil ?_; refine sn_then ?_; refine sw_block ?_)
  refine sw_loop (S := Nat) (fun i => [(1, .slice (some ⟨bk, off, none⟩) l.length c), (2, .pointer (some ⟨g2, 0, none⟩)), (4, .pointer (some ⟨g4, 0, none⟩)), (5, .pointer (some ⟨g5, 0, none⟩)), (6, .int .i64 (i : Int))])
    (fun i => pt g5 t_64_uint32 (wCells l i) :: pt g4 t_8_uint32 (u32s (List.replicate 8 0)) :: pt g2 t_8_uint32 (u32s A) :: F) (fun i => i ≤ 16) (fun i => 16 - i) 0 ⟨rfl, rfl, rfl, rfl, rfl, trivial⟩ (Ent.refl _) (Nat.zero_le _) ?_
  intro i hi
  ((iterate 2 refine sw_seq ?_); refine sw_region ?_; (iterate 2 refine so_1 rfl ?_); refine so_nil ?_; refine sn_then ?_)
  refine sw_if rfl (fun h => ?_) (fun h => ?_)
  · (refine sw_skip ?_; refine sn_then ?_; refine sw_seq ?_; refine sw_block ?_)
    refine sw_draw2 flo 35 F [] rfl (by decide +kernel) (ent_keep 3 [] rfl rfl) ?_
    ((iterate 3 refine sd_1 rfl (.inl rfl) ?_); refine sd_2 rfl rfl (by (unfold I64; omega)) ?_; refine sd_2 rfl rfl (by omega) ?_)
    refine sd_rd rfl (fun w H => ex_load rfl rfl rfl (rd_at hb (k := 4 * i) (by omega) (by omega) w H)) rfl rfl ?_
    (refine sd_1 rfl (.inl rfl) ?_; refine sd_2 rfl rfl (by omega) ?_; (iterate 2 refine sd_1 rfl (.inl rfl) ?_); (iterate 2 refine sd_2 rfl rfl (by (unfold I64; omega)) ?_); refine sd_2 rfl rfl (by omega) ?_)
    refine sd_rd rfl (fun w H => ex_load rfl rfl rfl (rd_at hb (k := 4 * i + 1) (by omega) (by omega) w H)) rfl rfl ?_
    (refine sd_1 rfl (.inl rfl) ?_; refine sd_2 rfl rfl (by omega) ?_; (iterate 3 refine sd_1 rfl (.inl rfl) ?_); (iterate 2 refine sd_2 rfl rfl (by (unfold I64; omega)) ?_); refine sd_2 rfl rfl (by omega) ?_)
    refine sd_rd rfl (fun w H => ex_load rfl rfl rfl (rd_at hb (k := 4 * i + 2) (by omega) (by omega) w H)) rfl rfl ?_
    (refine sd_1 rfl (.inl rfl) ?_; refine sd_2 rfl rfl (by omega) ?_; (iterate 3 refine sd_1 rfl (.inl rfl) ?_); (iterate 2 refine sd_2 rfl rfl (by (unfold I64; omega)) ?_); refine sd_2 rfl rfl (by omega) ?_)
    refine sd_rd rfl (fun w H => ex_load rfl rfl rfl (rd_at hb (k := 4 * i + 3) (by omega) (by omega) w H)) rfl rfl ?_
    ((iterate 2 refine sd_1 rfl (.inl rfl) ?_); refine sd_2 rfl rfl (by omega) ?_)
    refine sd_nil (sn_draw2 rfl (ent_nil _) ?_)
    have hn : wNext l (schedL l i) i = packW l i := if_pos (by omega)
    have hst := wc_st (l := l) (i := i) (by omega)
    rw [hn] at hst
    refine sd_st 0 rfl rfl rfl rfl rfl rfl rfl rfl rfl hst rfl (ent_nil _) ?_
    refine sd_nil ?_
    (refine sn_block ?_; refine sn_then ?_; refine sw_region ?_; refine so_1 rfl ?_; refine so_2 rfl (by (unfold I64; omega)) ?_; refine so_1 rfl ?_; refine so_nil ?_)
    refine sn_round (i + 1) ⟨rfl, rfl, rfl, rfl, rfl, trivial⟩ (Ent.refl _) ?_ ?_
    · show i + 1 ≤ 16
      omega
    · show 16 - (i + 1) < 16 - i
      omega
  obtain rfl : i = 16 := by omega
  (refine sw_exit ?_; refine sn_then_exit ?_; refine sn_loop_exit ?_; refine sn_block_exit ?_; refine sn_then ?_; (iterate 2 refine sw_seq ?_); refine sw_region ?_; refine so_1 rfl ?_; refine so_nil ?_; refine sn_then ?_; refine sw_block ?_)
  refine sw_loop (S := Nat) (fun i => [(2, .pointer (some ⟨g2, 0, none⟩)), (4, .pointer (some ⟨g4, 0, none⟩)), (5, .pointer (some ⟨g5, 0, none⟩)), (7, .int .i64 (i : Int))])
    (fun i => pt g5 t_64_uint32 (wCells l i) :: pt g4 t_8_uint32 (u32s (List.replicate 8 0)) :: pt g2 t_8_uint32 (u32s A) :: F) (fun i => 16 ≤ i ∧ i ≤ 64) (fun i => 64 - i) 16 ⟨rfl, rfl, rfl, rfl, trivial⟩ (Ent.refl _) ⟨Nat.le_refl _, by omega⟩ ?_
  rintro i ⟨h16, hi⟩
  ((iterate 2 refine sw_seq ?_); refine sw_region ?_; (iterate 2 refine so_1 rfl ?_); refine so_nil ?_; refine sn_then ?_)
  refine sw_if rfl (fun h => ?_) (fun h => ?_)
  · have w15 := wc_at (l := l) (i := i) (k := i - 15) (z := (i : Int) - 15) (by omega) (by omega)
    have w2 := wc_at (l := l) (i := i) (k := i - 2) (z := (i : Int) - 2) (by omega) (by omega)
    have w16 := wc_at (l := l) (i := i) (k := i - 16) (z := (i : Int) - 16) (by omega) (by omega)
    have w7 := wc_at (l := l) (i := i) (k := i - 7) (z := (i : Int) - 7) (by omega) (by omega)
    have hst := wc_st (l := l) (i := i) (by omega)
    have hn : wNext l (schedL l i) i = add32 (add32 (add32 ((schedL l i).getD (i - 16) 0) (sig0 ((schedL l i).getD (i - 15) 0))) ((schedL l i).getD (i - 7) 0)) (sig1 ((schedL l i).getD (i - 2) 0)) := if_neg (by omega)
    rw [hn] at hst
    generalize (schedL l i).getD (i - 16) 0 = v16 at *
    generalize (schedL l i).getD (i - 15) 0 = v15 at *
    generalize (schedL l i).getD (i - 7) 0 = v7 at *
    generalize (schedL l i).getD (i - 2) 0 = v2 at *
    (refine sw_skip ?_; refine sn_then ?_; refine sw_seq ?_; refine sw_block ?_; refine sw_seq ?_)
    refine sw_draw flo (pt g5 t_64_uint32 (wCells l i) :: F) (by decide +kernel) (ent_keep 3 [0] rfl rfl) ?_
    (refine sd_1 rfl (.inl rfl) ?_; refine sd_2 rfl rfl (by (unfold I64; omega)) ?_; refine sd_2 rfl rfl (by omega) ?_)
    refine sd_ld 0 rfl rfl rfl rfl rfl rfl w15 rfl rfl ?_
    refine sd_callE rfl rfl rfl rfl (SC.ofExt fun w H => turn_spec _ 7 (by decide) (by decide) w) (ent_keep 3 [0] rfl rfl) ?_
    (refine sd_1 rfl (.inl rfl) ?_; refine sd_2 rfl rfl (by (unfold I64; omega)) ?_; refine sd_2 rfl rfl (by omega) ?_)
    refine sd_ld 0 rfl rfl rfl rfl rfl rfl w15 rfl rfl ?_
    refine sd_callE rfl rfl rfl rfl (SC.ofExt fun w H => turn_spec _ 18 (by decide) (by decide) w) (ent_keep 3 [0] rfl rfl) ?_
    ((iterate 2 refine sd_1 rfl (.inl rfl) ?_); refine sd_2 rfl rfl (by (unfold I64; omega)) ?_; refine sd_2 rfl rfl (by omega) ?_)
    refine sd_ld 0 rfl rfl rfl rfl rfl rfl w15 rfl rfl ?_
    (refine sd_2 rfl rfl (by omega) ?_; (iterate 2 refine sd_1 rfl (.inl rfl) ?_))
    refine sd_nil ?_
    (refine sn_then ?_; refine sw_seq ?_)
    refine sw_draw flo (pt g5 t_64_uint32 (wCells l i) :: F) (by decide +kernel) (ent_keep 3 [0] rfl rfl) ?_
    (refine sd_1 rfl (.inl rfl) ?_; refine sd_2 rfl rfl (by (unfold I64; omega)) ?_; refine sd_2 rfl rfl (by omega) ?_)
    refine sd_ld 0 rfl rfl rfl rfl rfl rfl w2 rfl rfl ?_
    refine sd_callE rfl rfl rfl rfl (SC.ofExt fun w H => turn_spec _ 17 (by decide) (by decide) w) (ent_keep 3 [0] rfl rfl) ?_
    (refine sd_1 rfl (.inl rfl) ?_; refine sd_2 rfl rfl (by (unfold I64; omega)) ?_; refine sd_2 rfl rfl (by omega) ?_)
    refine sd_ld 0 rfl rfl rfl rfl rfl rfl w2 rfl rfl ?_
    refine sd_callE rfl rfl rfl rfl (SC.ofExt fun w H => turn_spec _ 19 (by decide) (by decide) w) (ent_keep 3 [0] rfl rfl) ?_
    ((iterate 2 refine sd_1 rfl (.inl rfl) ?_); refine sd_2 rfl rfl (by (unfold I64; omega)) ?_; refine sd_2 rfl rfl (by omega) ?_)
    refine sd_ld 0 rfl rfl rfl rfl rfl rfl w2 rfl rfl ?_
    (refine sd_2 rfl rfl (by omega) ?_; (iterate 2 refine sd_1 rfl (.inl rfl) ?_))
    refine sd_nil ?_
    (refine sn_then ?_)
    refine sw_draw2 flo 15 (pt g5 t_64_uint32 (wCells l i) :: F) [] rfl (by decide +kernel) (ent_keep 3 [0] rfl rfl) ?_
    ((iterate 2 refine sd_1 rfl (.inl rfl) ?_); refine sd_2 rfl rfl (by (unfold I64; omega)) ?_; refine sd_2 rfl rfl (by omega) ?_)
    refine sd_ld 0 rfl rfl rfl rfl rfl rfl w16 rfl rfl ?_
    ((iterate 3 refine sd_1 rfl (.inl rfl) ?_); refine sd_2 rfl rfl (by (unfold I64; omega)) ?_; refine sd_2 rfl rfl (by omega) ?_)
    refine sd_ld 0 rfl rfl rfl rfl rfl rfl w7 rfl rfl ?_
    ((iterate 3 refine sd_1 rfl (.inl rfl) ?_); refine sd_2 rfl rfl (by omega) ?_)
    refine sd_nil (sn_draw2 rfl (ent_nil _) ?_)
    refine sd_st 0 rfl rfl rfl rfl rfl rfl rfl rfl rfl hst rfl (ent_nil _) ?_
    refine sd_nil ?_
    (refine sn_block ?_; refine sn_then ?_; refine sw_region ?_; refine so_1 rfl ?_; refine so_2 rfl (by (unfold I64; omega)) ?_; refine so_1 rfl ?_; refine so_nil ?_)
    refine sn_round (i + 1) ⟨rfl, rfl, rfl, rfl, trivial⟩ (Ent.refl _) ⟨by omega, by omega⟩ ?_
    show 64 - (i + 1) < 64 - i
    omega
  obtain rfl : i = 64 := by omega
  have hW : wCells l 64 = u32s (schedL l 64) := by simp [wCells]
  have hX : (schedL l 64).length = 64 := sched_len l 64
  have hK : keyL.length = 64 := rfl
  rw [hW, hM]
  generalize schedL l 64 = X at *
  (refine sw_exit ?_; refine sn_then_exit ?_; refine sn_loop_exit ?_; refine sn_block_exit ?_; refine sn_then ?_; refine sw_seq ?_; refine sw_region ?_)
  refine so_ldA 2 rfl rfl rfl rfl rfl rfl (seg32 (a := A) hA.symm) rfl ?_
  refine so_new rfl rfl rfl rfl rfl fun g10 => ?_
  refine so_stW 0 rfl rfl rfl rfl rfl rfl rfl (by rw [hA8]; rfl) (u32s_one _) (by rw [hA8]; rfl) ?_
  (refine so_nil ?_; refine sn_then ?_; refine sw_seq ?_; refine sw_region ?_)
  refine so_callE rfl rfl rfl (SC.ofExt fun w H => refkeys_spec w) ?_
  generalize keyL = K at *
  refine so_new rfl rfl rfl rfl rfl fun g11 => ?_
  refine so_stW 0 rfl rfl rfl rfl rfl rfl rfl (by rw [u32s_len, hK]; rfl) (u32s_one _) (by rw [u32s_len, hK]; rfl) ?_
  (refine so_nil ?_; refine sn_then ?_; (iterate 2 refine sw_seq ?_); refine sw_region ?_; refine so_1 rfl ?_; refine so_nil ?_; refine sn_then ?_; refine sw_block ?_)
  refine sw_loop (S := Nat) (fun i => [(2, .pointer (some ⟨g2, 0, none⟩)), (4, .pointer (some ⟨g4, 0, none⟩)), (5, .pointer (some ⟨g5, 0, none⟩)), (10, .pointer (some ⟨g10, 0, none⟩)), (11, .pointer (some ⟨g11, 0, none⟩)), (12, .int .i64 (i : Int))])
    (fun i => pt g10 t_8_uint32 (u32s (rnds (toW A) K X i).l) :: pt g11 t_64_uint32 (u32s K) :: pt g5 t_64_uint32 (u32s X) :: pt g4 t_8_uint32 (u32s (List.replicate 8 0)) :: pt g2 t_8_uint32 (u32s A) :: F) (fun i => i ≤ 64) (fun i => 64 - i) 0 ⟨rfl, rfl, rfl, rfl, rfl, rfl, trivial⟩ ?_ (Nat.zero_le _) ?_
  · rw [show (rnds (toW A) K X 0).l = A from toW_l A hA]
    exact ent_keep 5 [1, 0, 2, 3, 4] rfl rfl
  intro i hi
  ((iterate 2 refine sw_seq ?_); refine sw_region ?_; (iterate 2 refine so_1 rfl ?_); refine so_nil ?_; refine sn_then ?_)
  refine sw_if rfl (fun h => ?_) (fun h => ?_)
  · have hnx : rnds (toW A) K X (i + 1) = rnd (rnds (toW A) K X i) (K.getD i 0) (X.getD i 0) := rfl
    have ck := u32at (a := K) (k := i) (z := (i : Int)) (by omega) (by omega)
    have cx := u32at (a := X) (k := i) (z := (i : Int)) (by omega) (by omega)
    generalize hs : rnds (toW A) K X i = s at *
    generalize hki : K.getD i 0 = ki at *
    generalize hxi : X.getD i 0 = xi at *
    obtain ⟨sa, sb, sc, sd, se, sf, sg, sh⟩ := s
    (refine sw_skip ?_; refine sn_then ?_; refine sw_seq ?_; refine sw_block ?_; refine sw_seq ?_)
    refine sw_draw flo (pt g10 t_8_uint32 [.int .u32 sa, .int .u32 sb, .int .u32 sc, .int .u32 sd, .int .u32 se, .int .u32 sf, .int .u32 sg, .int .u32 sh] :: pt g11 t_64_uint32 (u32s K) :: pt g5 t_64_uint32 (u32s X) :: F) (by decide +kernel) (ent_keep 5 [0, 1, 2] rfl rfl) ?_
    (refine sd_2 rfl rfl (by omega) ?_; refine sd_l 0 rfl rfl rfl rfl ?_; refine sd_2 rfl rfl (by omega) ?_; refine sd_l 0 rfl rfl rfl rfl ?_)
    refine sd_callE rfl rfl rfl rfl (SC.ofExt fun w H => turn_spec _ 6 (by decide) (by decide) w) (ent_keep 5 [0, 1, 2] rfl rfl) ?_
    (refine sd_2 rfl rfl (by omega) ?_; refine sd_l 0 rfl rfl rfl rfl ?_)
    refine sd_callE rfl rfl rfl rfl (SC.ofExt fun w H => turn_spec _ 11 (by decide) (by decide) w) (ent_keep 5 [0, 1, 2] rfl rfl) ?_
    (refine sd_1 rfl (.inl rfl) ?_; refine sd_2 rfl rfl (by omega) ?_; refine sd_l 0 rfl rfl rfl rfl ?_)
    refine sd_callE rfl rfl rfl rfl (SC.ofExt fun w H => turn_spec _ 25 (by decide) (by decide) w) (ent_keep 5 [0, 1, 2] rfl rfl) ?_
    ((iterate 2 refine sd_1 rfl (.inl rfl) ?_); refine sd_2 rfl rfl (by omega) ?_; refine sd_l 0 rfl rfl rfl rfl ?_; refine sd_2 rfl rfl (by omega) ?_; refine sd_l 0 rfl rfl rfl rfl ?_; refine sd_1 rfl (.inl rfl) ?_; refine sd_2 rfl rfl (by omega) ?_; refine sd_l 0 rfl rfl rfl rfl ?_; refine sd_1 rfl (.inl rfl) ?_; refine sd_2 rfl rfl (by omega) ?_; refine sd_l 0 rfl rfl rfl rfl ?_; (iterate 4 refine sd_1 rfl (.inl rfl) ?_); refine sd_2 rfl rfl (by omega) ?_)
    refine sd_ld 1 rfl rfl rfl rfl rfl rfl ck rfl rfl ?_
    ((iterate 2 refine sd_1 rfl (.inl rfl) ?_); refine sd_2 rfl rfl (by omega) ?_)
    refine sd_ld 2 rfl rfl rfl rfl rfl rfl cx rfl rfl ?_
    ((iterate 2 refine sd_1 rfl (.inl rfl) ?_))
    refine sd_nil ?_
    (refine sn_then ?_; refine sw_seq ?_)
    refine sw_draw flo (pt g10 t_8_uint32 [.int .u32 sa, .int .u32 sb, .int .u32 sc, .int .u32 sd, .int .u32 se, .int .u32 sf, .int .u32 sg, .int .u32 sh] :: F) (by decide +kernel) (ent_keep 5 [0] rfl rfl) ?_
    (refine sd_2 rfl rfl (by omega) ?_; refine sd_l 0 rfl rfl rfl rfl ?_)
    refine sd_callE rfl rfl rfl rfl (SC.ofExt fun w H => turn_spec _ 2 (by decide) (by decide) w) (ent_keep 5 [0] rfl rfl) ?_
    (refine sd_2 rfl rfl (by omega) ?_; refine sd_l 0 rfl rfl rfl rfl ?_)
    refine sd_callE rfl rfl rfl rfl (SC.ofExt fun w H => turn_spec _ 13 (by decide) (by decide) w) (ent_keep 5 [0] rfl rfl) ?_
    (refine sd_1 rfl (.inl rfl) ?_; refine sd_2 rfl rfl (by omega) ?_; refine sd_l 0 rfl rfl rfl rfl ?_)
    refine sd_callE rfl rfl rfl rfl (SC.ofExt fun w H => turn_spec _ 22 (by decide) (by decide) w) (ent_keep 5 [0] rfl rfl) ?_
    (refine sd_1 rfl (.inl rfl) ?_; refine sd_2 rfl rfl (by omega) ?_; refine sd_l 0 rfl rfl rfl rfl ?_; refine sd_2 rfl rfl (by omega) ?_; refine sd_l 0 rfl rfl rfl rfl ?_; refine sd_1 rfl (.inl rfl) ?_; refine sd_2 rfl rfl (by omega) ?_; refine sd_l 0 rfl rfl rfl rfl ?_; refine sd_2 rfl rfl (by omega) ?_; refine sd_l 0 rfl rfl rfl rfl ?_; (iterate 2 refine sd_1 rfl (.inl rfl) ?_); refine sd_2 rfl rfl (by omega) ?_; refine sd_l 0 rfl rfl rfl rfl ?_; refine sd_2 rfl rfl (by omega) ?_; refine sd_l 0 rfl rfl rfl rfl ?_; (iterate 4 refine sd_1 rfl (.inl rfl) ?_))
    refine sd_nil ?_
    (refine sn_then ?_; refine sw_region ?_; (iterate 3 refine so_1 rfl ?_); refine so_2 rfl (by omega) ?_; refine so_l 0 rfl rfl rfl ?_; refine so_2 rfl (by omega) ?_; refine so_l 0 rfl rfl rfl ?_; refine so_2 rfl (by omega) ?_; refine so_l 0 rfl rfl rfl ?_; refine so_2 rfl (by omega) ?_; refine so_l 0 rfl rfl rfl ?_; (iterate 2 refine so_1 rfl ?_); refine so_2 rfl (by omega) ?_; refine so_l 0 rfl rfl rfl ?_; refine so_2 rfl (by omega) ?_; refine so_l 0 rfl rfl rfl ?_; refine so_2 rfl (by omega) ?_; refine so_l 0 rfl rfl rfl ?_; refine so_1 rfl ?_; refine so_s1 0 rfl rfl rfl rfl ?_; refine so_nil ?_; refine sn_block ?_; refine sn_then ?_; refine sw_region ?_; refine so_1 rfl ?_; refine so_2 rfl (by (unfold I64; omega)) ?_; refine so_1 rfl ?_; refine so_nil ?_)
    refine sn_round (i + 1) ⟨rfl, rfl, rfl, rfl, rfl, rfl, trivial⟩ (by rw [hnx]; exact Ent.refl _) ?_ ?_
    · show i + 1 ≤ 64
      omega
    · show 64 - (i + 1) < 64 - i
      omega
  obtain rfl : i = 64 := by omega
  generalize hC : (rnds (toW A) K X 64).l = C at *
  have hC8 : C.length = 8 := by rw [← hC]; rfl
  (refine sw_exit ?_; refine sn_then_exit ?_; refine sn_loop_exit ?_; refine sn_block_exit ?_; refine sn_then ?_; (iterate 2 refine sw_seq ?_); refine sw_region ?_; refine so_1 rfl ?_; refine so_nil ?_; refine sn_then ?_; refine sw_block ?_)
  refine sw_loop (S := Nat) (fun i => [(2, .pointer (some ⟨g2, 0, none⟩)), (4, .pointer (some ⟨g4, 0, none⟩)), (10, .pointer (some ⟨g10, 0, none⟩)), (15, .int .i64 (i : Int))])
    (fun i => pt g10 t_8_uint32 (u32s (upd C A i)) :: pt g4 t_8_uint32 (u32s (List.replicate 8 0)) :: pt g2 t_8_uint32 (u32s A) :: F) (fun i => i ≤ 8) (fun i => 8 - i) 0 ⟨rfl, rfl, rfl, rfl, trivial⟩ ?_ (Nat.zero_le _) ?_
  · rw [upd_zero C A hC8]
    exact ent_keep 5 [0, 3, 4] rfl rfl
  intro i hi
  have hul := upd_len C A i
  ((iterate 2 refine sw_seq ?_); refine sw_region ?_; (iterate 2 refine so_1 rfl ?_); refine so_nil ?_; refine sn_then ?_)
  refine sw_if rfl (fun h => ?_) (fun h => ?_)
  · have ca := u32at (a := A) (k := i) (z := (i : Int)) (by omega) (by omega)
    have cc := u32at (a := upd C A i) (k := i) (z := (i : Int)) (by omega) (by omega)
    rw [upd_get _ _ _ _ (by omega), if_neg (by omega)] at cc
    have hst : stO (u32s (upd C A i)) (0 + mulz (i : Int).toNat 1) (.int .u32 (add32 (C.getD i 0) (A.getD i 0))) = some (u32s (upd C A (i + 1))) :=
      stO_ok (by rw [mulz_eq, u32s_len, hul]; simp; omega) (by rw [mulz_eq, ← upd_set C A i (by omega)]; simp [u32s])
    generalize upd C A i = U at *
    (refine sw_skip ?_; refine sn_then ?_; refine sw_seq ?_; refine sw_block ?_)
    refine sw_draw2 flo 9 (pt g10 t_8_uint32 (u32s U) :: pt g4 t_8_uint32 (u32s (List.replicate 8 0)) :: pt g2 t_8_uint32 (u32s A) :: F) [] rfl (by decide +kernel) (Ent.refl _) ?_
    ((iterate 2 refine sd_1 rfl (.inl rfl) ?_); refine sd_2 rfl rfl (by omega) ?_)
    refine sd_ld 0 rfl rfl rfl rfl rfl rfl cc rfl rfl ?_
    (refine sd_1 rfl (.inl rfl) ?_; refine sd_2 rfl rfl (by omega) ?_)
    refine sd_ld 2 rfl rfl rfl rfl rfl rfl ca rfl rfl ?_
    (refine sd_1 rfl (.inl rfl) ?_; refine sd_2 rfl rfl (by omega) ?_)
    refine sd_nil (sn_draw2 rfl (ent_nil _) ?_)
    refine sd_st 0 rfl rfl rfl rfl rfl rfl rfl rfl rfl hst rfl (ent_nil _) ?_
    refine sd_nil ?_
    (refine sn_block ?_; refine sn_then ?_; refine sw_region ?_; refine so_1 rfl ?_; refine so_2 rfl (by (unfold I64; omega)) ?_; refine so_1 rfl ?_; refine so_nil ?_)
    refine sn_round (i + 1) ⟨rfl, rfl, rfl, rfl, trivial⟩ (Ent.refl _) ?_ ?_
    · show i + 1 ≤ 8
      omega
    · show 8 - (i + 1) < 8 - i
      omega
  obtain rfl : i = 8 := by omega
  have hUU : upd A C 8 = upd C A 8 := by
    apply List.ext_getElem
    · rw [upd_len, upd_len]
    · intro j h1 h2
      rw [upd_len] at h1
      have e1 := upd_get A C 8 j h1
      have e2 := upd_get C A 8 j h1
      rw [if_pos h1] at e1 e2
      rw [List.getD_eq_getElem?_getD, List.getElem?_eq_getElem (by rw [upd_len]; exact h1)] at e1 e2
      simp only [Option.getD_some] at e1 e2
      rw [e1, e2, add32_comm]
  rw [hUU]
  generalize upd C A 8 = U at *
  (refine sw_exit ?_; refine sn_then_exit ?_; refine sn_loop_exit ?_; refine sn_block_exit ?_; refine sn_then ?_; refine sw_seq ?_; refine sw_region ?_)
  refine so_ldA 0 rfl rfl rfl rfl rfl rfl (seg32 (a := U) hul.symm) rfl ?_
  refine so_stW 1 rfl rfl rfl rfl rfl rfl rfl (by rw [u32s_len, hul]; rfl) (u32s_one _) (by rw [u32s_len, hul]; rfl) ?_
  (refine so_nil ?_; refine sn_then ?_; refine sw_ret ?_)
  refine sn_ret rfl (.whole 1 rfl rfl rfl rfl (by rw [u32s_len, hul]; rfl) .nil) (ent_keep 3 [] rfl rfl) ?_
  exact ⟨rfl, rfl⟩
end Go.Proofs.Ytjfileaidgknjaa
/- Digests, part seventeen: the document's digest. Conditions: not too many bytes, which may be read. -/
namespace Go.Proofs.Ytjfileaidgknjaa
open Go.Eng Go.RowKit

def sumR (xs : List Int) : List Int := idM (absorb (endM xs xs.length).length beginL (endM xs xs.length)).1
theorem sumR_len (xs : List Int) : (sumR xs).length = 32 := by simp [sumR, idM]

theorem sd_stW {P : Program} {tt : Nat → Option TI} [TT P tt] {ro : Option Nat} {N : Nat} {fl : Oper → Bool} {l rest : List Oper} {kk : Nat} {Q : Exit → Act → World → Prop} {E : List (Nat × Value)} {ds : List Deferred} {b : World} {F0 F G : List SP}
    {op : Op} {ty : TypeId} {pos : String} {aft : Array Edge} {g : Option (Nat × Bool)} {t g' t0 : Nat} {x y : Operand} {i : TI} {cs vs : List Value} (k : Nat) (hg : wants l E g = some true) (hf : fl ⟨none, op, ty, pos, aft, g⟩ = false) (hop : op = .store t x y) (ht : tt t = some i) (hx : ev E x = some (.pointer (some ⟨g', 0, none⟩))) (hy : ev E y = some (.agg ⟨vs⟩)) (hF : nth F k = some (pt g' t0 cs)) (hG : setF F k (pt g' t0 vs) = some G)
    (hs : vs.length = i.size) (hv : ∀ u ∈ vs, u.oneCell' = true) (hc : vs.length = cs.length) (he : Ent G F0) (h : SD P fl ro N F0 l (kk + 1) rest Q E ds b G) : SD P fl ro N F0 l kk (⟨none, op, ty, pos, aft, g⟩ :: rest) Q E ds b F := by
  subst hop
  refine sd_wr hg hf (fun w H => ?_) he h
  have B := H.blk hF
  exact ⟨_, eu_storeW (vs := vs) ht hx hy rfl (by rw [hs]; exact Nat.beq_refl _) hv B hc, H.write hF (Fr.setRow _ _ _) B.setRow hG⟩
theorem sl_at {g o m c n' c' : Nat} (h : c ≠ m) : Value.slice (if c = m then some ⟨g, o, none⟩ else (some ⟨g, o, none⟩ : Option Addr).map fun x => x.add (m * 1)) n' c' = .slice (some ⟨g, o + m, none⟩) n' c' := by
  rw [if_neg h]
  simp only [Option.map_some, Addr.add, Nat.mul_one]
  split
  · rename_i h0; simp [h0]
  · rfl

set_option maxHeartbeats 1000000 in
theorem refSum_S {b : World} {F : List SP} {vb : Value} {xs : List Int} (hlen : xs.length ≤ 1000000) (hb : ∀ w, Sat b F w → VL (Value.int .u8) w vb xs) :
    SC Try.prog n_entrepotref02_Sum [vb] b F (fun v F' => v = idV (sumR xs) ∧ F' = F) := by
  have hEL := endM_len xs xs.length
  refine enterS F_entrepotref02_Sum rfl rfl rfl ?_
  refine sw_fact (fun w H => (hb w H).form) ?_
  rintro ⟨bA, cb, rfl, hnc, hcm, hzn, hcell⟩
  clear hcell hzn hnc hcm
  (refine sw_seq ?_; refine sw_region ?_)
  refine so_new rfl rfl rfl rfl rfl fun g2 => ?_
  (refine so_nil ?_; refine sn_then ?_; refine sw_seq ?_; refine sw_region ?_)
  refine so_lit [] rfl rfl rfl rfl rfl rfl rfl rfl rfl fun gl => ?_
  refine so_ent (ent_blk_row (n := 0) (sz := 1) rfl rfl (by decide) 0 rfl rfl) ?_
  (refine so_1 rfl ?_)
  refine so_append 0 rfl rfl rfl rfl rfl rfl rfl rfl rfl (up hb (ent_keep 2 [] rfl rfl)) (u8s_one _) (by omega) (fun _ => rfl) fun v4 => ?_
  refine so_ent (ent_rB (l := xs) 0 rfl (by simp) (by simp) rfl) ?_
  refine so_lit [.int .u8 128] rfl rfl rfl rfl rfl rfl rfl rfl rfl fun gl => ?_
  refine so_append 1 rfl rfl rfl rfl rfl rfl rfl rfl rfl (vl1 (l := [128]) (k := 0) rfl (by decide) rfl) (u8s_one [128]) (by simp; omega) (fun _ => rfl) fun v5 => ?_
  refine so_ent ((ent_rB (l := xs ++ [128]) 1 rfl (by simp) (by simp) rfl).trans (ent_keep 3 [1, 2] rfl rfl)) ?_
  (refine so_1 rfl ?_; refine so_nil ?_; refine sn_then ?_; refine sw_seq ?_; refine sw_block ?_)
  refine sw_loop (S := Nat × Value) (fun s => [(0, .slice bA xs.length cb), (2, .pointer (some ⟨g2, 0, none⟩)), (3, s.2)])
    (fun s => rB s.2 (xs ++ [128] ++ List.replicate s.1 0) :: pt g2 t_api_ID (u8s (List.replicate 32 0)) :: F)
    (fun s => s.1 ≤ zeroN xs) (fun s => zeroN xs - s.1) (0, v5) ⟨rfl, rfl, rfl, trivial⟩ (ent_rB 0 rfl (by simp) (by simp) rfl) (Nat.zero_le _) ?_
  rintro ⟨k, v⟩ hk
  dsimp only at hk ⊢
  have hL : (xs ++ [128] ++ List.replicate k 0).length = xs.length + 1 + k := by simp; omega
  have hz : zeroN xs = (120 - (xs.length + 1) % 64) % 64 := rfl
  refine sw_fact (fun w H => (H.oat (k := 0) rfl).form) ?_
  rintro ⟨A7, c7, rfl, _, _, _⟩
  ((iterate 2 refine sw_seq ?_); refine sw_region ?_; (iterate 2 refine so_1 rfl ?_); refine so_2 rfl (by (unfold I64; omega)) ?_; refine so_2 rfl (by omega) ?_; refine so_1 rfl ?_; refine so_nil ?_; refine sn_then ?_)
  have htm : (((xs ++ [128] ++ List.replicate k 0).length : Int) + 8).tmod 64 = (((xs.length + 1 + k + 8) % 64 : Nat) : Int) := by
    rw [hL, Int.tmod_eq_emod_of_nonneg (by omega)]; omega
  refine sw_ifn rfl (fun h => ?_) (fun h => ?_) <;> rw [htm] at h
  · (refine sw_skip ?_; refine sn_then ?_; refine sw_block ?_; refine sw_region ?_; refine so_1 rfl ?_)
    refine so_lit [.int .u8 0] rfl rfl rfl rfl rfl rfl rfl rfl rfl fun gl => ?_
    refine so_append 1 rfl rfl rfl rfl rfl rfl rfl rfl rfl (vl1 (l := [0]) (k := 0) rfl (by decide) rfl) (u8s_one [0]) (by simp; omega) (fun _ => rfl) fun v8 => ?_
    refine so_ent ((ent_rB (l := xs ++ [128] ++ List.replicate (k + 1) 0) 1 rfl (by simp; omega) (by rw [List.replicate_succ']; simp) rfl).trans (ent_keep 3 [1, 2] rfl rfl)) ?_
    (refine so_1 rfl ?_; refine so_nil ?_; refine sn_block ?_)
    refine sn_round (k + 1, v8) ⟨rfl, rfl, rfl, trivial⟩ (Ent.refl _) ?_ ?_
    · show k + 1 ≤ zeroN xs
      omega
    · show zeroN xs - (k + 1) < zeroN xs - k
      omega
  obtain rfl : k = zeroN xs := by omega
  (refine sw_exit ?_; refine sn_then_exit ?_; refine sn_loop_exit ?_; refine sn_block_exit ?_; refine sn_then ?_; refine sw_seq ?_; refine sw_region ?_; (iterate 5 refine so_1 rfl ?_); refine so_nil ?_; refine sn_then ?_; (iterate 2 refine sw_seq ?_); refine sw_region ?_; refine so_1 rfl ?_; refine so_nil ?_; refine sn_then ?_; refine sw_block ?_)
  generalize hP : xs ++ [128] ++ List.replicate (zeroN xs) 0 = p at *
  have hend : endM xs xs.length = p ++ lenL xs.length 8 := by rw [endM, hP]
  have hpl : p.length ≤ 1000100 := by omega
  have hLL : ∀ j, (lenL xs.length j).length = j := fun j => by simp [lenL]
  refine sw_loop (S := Nat × Value) (fun s => [(2, .pointer (some ⟨g2, 0, none⟩)), (3, s.2), (4, .int .u64 (IntKind.u64.wrap (IntKind.u64.wrap xs.length * 8))), (5, .int .i64 (7 - (s.1 : Int)))])
    (fun s => rB s.2 (p ++ lenL xs.length s.1) :: pt g2 t_api_ID (u8s (List.replicate 32 0)) :: F)
    (fun s => s.1 ≤ 8) (fun s => 8 - s.1) (0, .slice A7 p.length c7) ⟨rfl, rfl, rfl, rfl, trivial⟩ (ent_rB 0 rfl (by simp [lenL]) (by simp [lenL]) rfl) (Nat.zero_le _) ?_
  rintro ⟨k, v⟩ hk
  dsimp only at hk ⊢
  ((iterate 2 refine sw_seq ?_); refine sw_region ?_; (iterate 2 refine so_1 rfl ?_); refine so_nil ?_; refine sn_then ?_)
  refine sw_if rfl (fun h => ?_) (fun h => ?_)
  · (refine sw_skip ?_; refine sn_then ?_; refine sw_seq ?_; refine sw_block ?_; refine sw_region ?_; (iterate 3 refine so_1 rfl ?_); refine so_2 rfl (by (unfold I64; omega)) ?_; refine so_2 rfl (by omega) ?_; refine so_1 rfl ?_)
    have e : min (8 * (7 - (k : Int))).toNat IntKind.u64.bits = 56 - 8 * k := by
      show min _ 64 = _
      omega
    refine so_know 36 (.int .u8 (lenB xs.length k)) rfl (by rw [lenB, e]) ?_
    refine so_lit [.int .u8 (lenB xs.length k)] rfl rfl rfl rfl rfl rfl rfl rfl rfl fun gl => ?_
    refine so_append 1 rfl rfl rfl rfl rfl rfl rfl rfl rfl (vl1 (l := [lenB xs.length k]) (k := 0) rfl (by decide) rfl) (u8s_one [lenB xs.length k]) (by simp [hLL]; omega) (fun _ => rfl) fun v8 => ?_
    refine so_ent ((ent_rB (l := p ++ lenL xs.length (k + 1)) 1 rfl (by simp [hLL]; omega) (by simp [lenL, List.range_succ]) rfl).trans (ent_keep 3 [1, 2] rfl rfl)) ?_
    (refine so_1 rfl ?_; refine so_nil ?_; refine sn_block ?_; refine sn_then ?_; refine sw_region ?_; refine so_1 rfl ?_; refine so_2 rfl (by (unfold I64; omega)) ?_; refine so_1 rfl ?_; refine so_nil ?_)
    have e7 : (7 - (k : Int)) - 1 = 7 - ((k + 1 : Nat) : Int) := by omega
    refine sn_round (k + 1, v8) ⟨rfl, rfl, rfl, by rw [← e7]; rfl, trivial⟩ (Ent.refl _) ?_ ?_
    · show k + 1 ≤ 8
      omega
    · show 8 - (k + 1) < 8 - k
      omega
  obtain rfl : k = 8 := by omega
  rw [← hend]
  generalize hE : endM xs xs.length = l0 at *
  refine sw_fact (fun w H => (H.oat (k := 0) rfl).form) ?_
  rintro ⟨A9, c9, rfl, h91, h92, h93⟩
  (refine sw_exit ?_; refine sn_then_exit ?_; refine sn_loop_exit ?_; refine sn_block_exit ?_; refine sn_then ?_; refine sw_seq ?_; refine sw_region ?_; refine so_1 rfl ?_)
  refine so_new rfl rfl rfl rfl rfl fun g6 => ?_
  (refine so_s1 0 rfl rfl rfl rfl ?_; refine so_nil ?_; refine sn_then ?_; (iterate 2 refine sw_seq ?_); refine sw_region ?_; refine so_1 rfl ?_; refine so_nil ?_; refine sn_then ?_; refine sw_block ?_)
  refine sw_loop (S := Nat × List Int) (fun s => [(2, .pointer (some ⟨g2, 0, none⟩)), (3, .slice A9 l0.length c9), (6, .pointer (some ⟨g6, 0, none⟩)), (7, .int .i64 ((64 * s.1 : Nat) : Int))])
    (fun s => pt g6 t_8_uint32 (u32s s.2) :: rB (.slice A9 l0.length c9) l0 :: pt g2 t_api_ID (u8s (List.replicate 32 0)) :: F)
    (fun s => s.2.length = 8 ∧ 64 * s.1 ≤ l0.length ∧ ∃ k, (l0.drop (64 * s.1)).length ≤ k ∧ absorb k s.2 (l0.drop (64 * s.1)) = absorb l0.length beginL l0) (fun s => l0.length - 64 * s.1) (0, beginL) ⟨rfl, rfl, rfl, rfl, trivial⟩ (Ent.refl _)
    ⟨rfl, Nat.zero_le _, l0.length, by simp, by simp⟩ ?_
  rintro ⟨k, a'⟩ ⟨ha', hk, fuel, hf1, hf2⟩
  dsimp only at ha' hk hf1 hf2 ⊢
  ((iterate 2 refine sw_seq ?_); refine sw_region ?_; (iterate 4 refine so_1 rfl ?_); refine so_nil ?_; refine sn_then ?_)
  refine sw_if rfl (fun h => ?_) (fun h => ?_)
  · have hk64 : 64 * k + 64 ≤ l0.length := by omega
    obtain ⟨gb, ob, rfl⟩ := h93 (by omega)
    (refine sw_skip ?_; refine sn_then ?_; refine sw_seq ?_; refine sw_block ?_)
    refine sw_draw2 flo 7 (pt g6 t_8_uint32 (u32s a') :: rB (.slice (some ⟨gb, ob, none⟩) l0.length c9) l0 :: pt g2 t_api_ID (u8s (List.replicate 32 0)) :: F) [] rfl (by decide +kernel) (Ent.refl _) ?_
    refine sd_ldA 0 rfl rfl rfl rfl rfl rfl (seg32 (a := a') ha'.symm) rfl rfl ?_
    ((iterate 3 refine sd_1 rfl (.inl rfl) ?_); refine sd_2 rfl rfl (by (unfold I64; omega)) ?_; refine sd_2 rfl rfl (by omega) ?_)
    have e1 : (((64 * k : Nat) : Int)).toNat = 64 * k := by omega
    have e2 : (((64 * k : Nat) : Int) + 64).toNat - 64 * k = 64 := by omega
    refine sd_know 51 (.slice (some ⟨gb, ob + 64 * k, none⟩) 64 (c9 - 64 * k)) rfl (by rw [e1, e2, sl_at (by omega)]) ?_
    have hl64 : ((l0.take (64 * k + 64)).drop (64 * k)).length = 64 := by simp; omega
    refine sd_call rfl rfl rfl rfl (refblock_S (A := a') (l := (l0.take (64 * k + 64)).drop (64 * k)) (fun w H => ?_) (by omega) ha') ?_
    · have := VL.sub (l := 64 * k) (h := 64 * k + 64) (A' := some ⟨gb, ob + 64 * k, none⟩) (c' := c9 - 64 * k) (vlB (k := 1) rfl w H) (by omega) (by omega) (by omega) (by omega) (fun _ bk off he => by cases he; rfl) (fun he => by cases he)
      have e3 : 64 * k + 64 - 64 * k = 64 := by omega
      rwa [e3] at this
    rintro _ _ ⟨rfl, rfl⟩
    refine ⟨Ent.refl _, ?_⟩
    have hb8 := blockM_len a' ((l0.take (64 * k + 64)).drop (64 * k))
    have habs : ∀ q, fuel = q + 1 → absorb q (blockM a' ((l0.take (64 * k + 64)).drop (64 * k))) (l0.drop (64 * (k + 1))) = absorb l0.length beginL l0 := by
      intro q hq
      subst hq
      rw [← hf2, absorb, if_pos (by simp; omega), List.drop_drop, List.drop_take, show 64 * k + 64 - 64 * k = 64 by omega, show 64 * k + 64 = 64 * (k + 1) by omega]
    generalize blockM a' ((l0.take (64 * k + 64)).drop (64 * k)) = a2 at *
    refine sd_nil (sn_draw2 rfl (ent_nil _) ?_)
    refine sd_stW 0 rfl rfl rfl rfl rfl rfl rfl rfl (by rw [u32s_len, hb8]; rfl) (u32s_one _) (by rw [u32s_len, u32s_len, hb8, ha']) (ent_nil _) ?_
    refine sd_nil ?_
    (refine sn_block ?_; refine sn_then ?_; refine sw_region ?_; refine so_1 rfl ?_; refine so_2 rfl (by (unfold I64; omega)) ?_; refine so_1 rfl ?_; refine so_nil ?_)
    have e4 : ((64 * k : Nat) : Int) + 64 = ((64 * (k + 1) : Nat) : Int) := by omega
    refine sn_round (k + 1, a2) ⟨rfl, rfl, rfl, by rw [← e4]; rfl, trivial⟩ (Ent.refl _) ⟨hb8, by dsimp only; omega, ?_⟩ ?_
    · obtain ⟨q, rfl⟩ : ∃ q, fuel = q + 1 := ⟨fuel - 1, by simp at hf1; omega⟩
      exact ⟨q, by simp at hf1 ⊢; omega, habs q rfl⟩
    · show l0.length - 64 * (k + 1) < l0.length - 64 * k
      omega
  have hd0 : l0.drop (64 * k) = [] := List.drop_of_length_le (by omega)
  have hfin : (absorb l0.length beginL l0).1 = a' := by
    rw [← hf2, hd0, absorb_end _ _ _ (by simp)]
  have hR : sumR xs = idM a' := by rw [sumR, hE, hfin]
  rw [hR]
  (refine sw_exit ?_; refine sn_then_exit ?_; refine sn_loop_exit ?_; refine sn_block_exit ?_; refine sn_then ?_; refine sw_seq ?_; refine sw_region ?_)
  refine so_new rfl rfl rfl rfl rfl fun g8 => ?_
  (refine so_nil ?_; refine sn_then ?_; (iterate 2 refine sw_seq ?_); refine sw_region ?_; refine so_1 rfl ?_; refine so_nil ?_; refine sn_then ?_; refine sw_block ?_)
  refine sw_loop (S := Nat) (fun s => [(2, .pointer (some ⟨g2, 0, none⟩)), (6, .pointer (some ⟨g6, 0, none⟩)), (8, .pointer (some ⟨g8, 0, none⟩)), (9, .int .i64 (s : Int))])
    (fun s => pt g8 t_api_ID (u8s (idP a' s)) :: pt g6 t_8_uint32 (u32s a') :: pt g2 t_api_ID (u8s (List.replicate 32 0)) :: F)
    (fun s => s ≤ 32) (fun s => 32 - s) 0 ⟨rfl, rfl, rfl, rfl, trivial⟩ (ent_keep 4 [0, 1, 3] rfl rfl) (Nat.zero_le _) ?_
  intro i hi
  have hpl := idP_len a' i hi
  ((iterate 2 refine sw_seq ?_); refine sw_region ?_; (iterate 2 refine so_1 rfl ?_); refine so_nil ?_; refine sn_then ?_)
  refine sw_if rfl (fun h => ?_) (fun h => ?_)
  · (refine sw_skip ?_; refine sn_then ?_; refine sw_seq ?_; refine sw_block ?_; refine sw_region ?_; (iterate 2 refine so_1 rfl ?_); refine so_2 rfl (by omega) ?_)
    have htd : IntKind.i64.wrap ((i : Int).tdiv 4) = ((i / 4 : Nat) : Int) := by
      rw [Int.tdiv_eq_ediv_of_nonneg (by omega), I64.wrap (by unfold I64; omega)]; omega
    have htm : (i : Int).tmod 4 = ((i % 4 : Nat) : Int) := by
      rw [Int.tmod_eq_emod_of_nonneg (by omega)]; omega
    refine so_ix (i / 4) rfl rfl rfl htd (by omega) ?_
    refine so_ld 1 rfl rfl rfl rfl rfl rfl (by rw [mulz_eq]; simpa using u32nth (a := a') (j := i / 4) (by omega)) rfl ?_
    (refine so_1 rfl ?_; refine so_2 rfl (by omega) ?_; (iterate 2 refine so_2 rfl (by (unfold I64; omega)) ?_); refine so_2 rfl (by omega) ?_; refine so_1 rfl ?_; refine so_2 rfl (by omega) ?_)
    have e : min (24 - 8 * ((i % 4 : Nat) : Int)).toNat IntKind.u32.bits = 24 - 8 * (i % 4) := by
      show min _ 32 = _
      omega
    refine so_know 67 (.int .u8 (idB a' i)) rfl (by simp only [htm, e, idB, List.getD_eq_getElem?_getD]) ?_
    skip
    refine so_st 0 rfl rfl rfl rfl rfl rfl rfl rfl (stO_ok (r := u8s (idP a' (i + 1))) (by rw [mulz_eq]; simp [hpl]; omega) (by rw [mulz_eq]; simpa using idP_set a' i (by omega))) rfl ?_
    (refine so_nil ?_; refine sn_block ?_; refine sn_then ?_; refine sw_region ?_; refine so_1 rfl ?_; refine so_2 rfl (by (unfold I64; omega)) ?_; refine so_1 rfl ?_; refine so_nil ?_)
    refine sn_round (i + 1) ⟨rfl, rfl, rfl, rfl, trivial⟩ (Ent.refl _) ?_ ?_
    · show i + 1 ≤ 32
      omega
    · show 32 - (i + 1) < 32 - i
      omega
  obtain rfl : i = 32 := by omega
  rw [idP_end] at *
  generalize idM a' = dg at *
  (refine sw_exit ?_; refine sn_then_exit ?_; refine sn_loop_exit ?_; refine sn_block_exit ?_; refine sn_then ?_; refine sw_seq ?_; refine sw_region ?_)
  refine so_ldA 0 rfl rfl rfl rfl rfl rfl (segID hpl) rfl ?_
  refine so_stW 2 rfl rfl rfl rfl rfl rfl rfl (by rw [u8s_len, hpl]; rfl) (u8s_one _) (by simp [hpl]) ?_
  (refine so_nil ?_; refine sn_then ?_; refine sw_ret ?_)
  refine sn_ret rfl (.whole 2 rfl rfl rfl rfl (by rw [u8s_len, hpl]; rfl) .nil) (ent_keep 3 [] rfl rfl) ?_
  exact ⟨rfl, rfl⟩

theorem refOf_S {b : World} {F : List SP} {vb : Value} {xs : List Int} {w : Int} (hlen : xs.length ≤ 1000000) (hb : ∀ w, Sat b F w → VL (Value.int .u8) w vb xs) :
    SC Try.prog n_entrepotref02_Of [vb, .int .i64 w] b F (fun v F' => v = .tuple ⟨[idV (cutR (sumR xs) w), .int .i64 (cutE w)]⟩ ∧ F' = F) := by
  have hcl := cutR_len (sumR xs) w (sumR_len xs)
  refine enterS F_entrepotref02_Of rfl rfl rfl ?_
  (refine sw_seq ?_; refine sw_region ?_)
  refine so_new rfl rfl rfl rfl rfl fun g4 => ?_
  (refine so_1 rfl ?_; refine so_nil ?_; refine sn_then ?_; refine sw_seq ?_; refine sw_region ?_; refine so_1 rfl ?_)
  refine so_callE rfl rfl rfl (refSum_S hlen (up hb (ent_keep 1 [] rfl rfl))) ?_
  (refine so_1 rfl ?_)
  refine so_callE rfl rfl rfl (refCut_S (sumR_len xs)) ?_
  generalize cutR (sumR xs) w = d at *
  ((iterate 2 refine so_1 rfl ?_))
  refine so_stW 0 rfl rfl rfl rfl rfl rfl rfl (by rw [u8s_len, hcl]; rfl) (u8s_one _) (by simp [hcl]) ?_
  (refine so_1 rfl ?_; refine so_nil ?_; refine sn_then ?_; refine sw_ret ?_)
  refine sn_ret rfl (.whole 0 rfl rfl rfl rfl (by rw [u8s_len, hcl]; rfl) (.tmp rfl .nil)) (ent_keep 1 [] rfl rfl) ?_
  exact ⟨rfl, rfl⟩

/-! ## The two digests are one -/
theorem absorb_more : ∀ (k j : Nat) (a l : List Int), l.length ≤ k → l.length ≤ j → absorb k a l = absorb j a l
  | 0, j, a, l, h, _ => by
    have : l = [] := List.eq_nil_of_length_eq_zero (by omega)
    subst this
    rw [absorb_end 0 a [] (by simp), absorb_end j a [] (by simp)]
  | k + 1, 0, a, l, _, h => by
    have : l = [] := List.eq_nil_of_length_eq_zero (by omega)
    subst this
    rw [absorb_end _ a [] (by simp), absorb_end 0 a [] (by simp)]
  | k + 1, j + 1, a, l, h1, h2 => by
    rw [absorb, absorb]
    split
    · exact absorb_more k j _ _ (by simp; omega) (by simp; omega)
    · rfl
/-- What is taken in behind what was taken in. -/
theorem absorb_app : ∀ (k : Nat) (a l m : List Int), l.length ≤ k → absorb (k + m.length) a (l ++ m) = absorb ((absorb k a l).2.length + m.length) (absorb k a l).1 ((absorb k a l).2 ++ m)
  | 0, a, l, m, h => by
    have : l = [] := List.eq_nil_of_length_eq_zero (by omega)
    subst this
    simp [absorb]
  | k + 1, a, l, m, h => by
    by_cases h64 : 64 ≤ l.length
    · have e1 : absorb (k + 1) a l = absorb k (blockM a (l.take 64)) (l.drop 64) := by rw [absorb, if_pos h64]
      have ih := absorb_app k (blockM a (l.take 64)) (l.drop 64) m (by simp; omega)
      rw [e1, ← ih, show k + 1 + m.length = (k + m.length) + 1 by omega, absorb, if_pos (by simp; omega), List.take_append_of_le_length h64, List.drop_append_of_le_length h64]
    · rw [absorb_end (k + 1) a l (by omega)]
      exact absorb_more _ _ _ _ (by simp; omega) (by simp)
theorem zeroN_eq {l m : List Int} (h : l.length % 64 = m.length % 64) : zeroN l = zeroN m := by unfold zeroN; omega
theorem absorb_rest : ∀ (k : Nat) (a l : List Int), l.length ≤ k → (absorb k a l).2.length = l.length % 64
  | 0, a, l, h => by
    have : l = [] := List.eq_nil_of_length_eq_zero (by omega)
    subst this; rfl
  | k + 1, a, l, h => by
    rw [absorb]
    split
    · rw [absorb_rest k _ _ (by simp; omega)]; simp; omega
    · show l.length = l.length % 64
      omega
/-- Taken in by pieces, the digest is that of all. -/
theorem sumA_pieces (xs : List Int) : sumA (absorb xs.length beginL xs).1 (absorb xs.length beginL xs).2 xs.length = (absorb (endM xs xs.length).length beginL (endM xs xs.length)).1 := by
  have hr := absorb_rest xs.length beginL xs (Nat.le_refl _)
  have hz : zeroN (absorb xs.length beginL xs).2 = zeroN xs := zeroN_eq (by omega)
  have e : ∀ l : List Int, zeroN l = zeroN xs → endM l xs.length = l ++ ([128] ++ List.replicate (zeroN xs) 0 ++ lenL xs.length 8) := by
    intro l hl; simp [endM, hl]
  rw [sumA, e _ hz, e xs rfl]
  generalize [128] ++ List.replicate (zeroN xs) 0 ++ lenL xs.length 8 = m
  have := absorb_app xs.length beginL xs m (Nat.le_refl _)
  rw [List.length_append, List.length_append, this]
theorem sum_RM (xs : List Int) : sumR xs = sumM xs := by rw [sumR, sumM, sumA_pieces]
end Go.Proofs.Ytjfileaidgknjaa
/- Digests, part eighteen: the chapter's examples; lent bytes, written-over bytes, a number picked. Conditions: not too many bytes. -/
namespace Go.Proofs.Ytjfileaidgknjaa
open Go.Eng Go.RowKit

theorem u8_range (x : Int) : 0 ≤ IntKind.u8.wrap x ∧ IntKind.u8.wrap x < 256 := by
  have : IntKind.u8.wrap x = x % 256 := by simp [IntKind.wrap, IntKind.signed, IntKind.bits]
  omega
theorem sumM_byte (xs : List Int) : byteW (sumM xs) := by
  intro c hc
  simp only [sumM, idM, List.mem_map] at hc
  obtain ⟨i, _, rfl⟩ := hc
  exact u8_range _
theorem cutR_byte {l : List Int} (h : byteW l) (w : Int) : byteW (cutR l w) := by
  intro c hc
  unfold cutR at hc
  split at hc
  · rw [List.eq_of_mem_replicate hc]; omega
  · rw [cutM, List.mem_append] at hc
    rcases hc with hc | hc
    · exact h c (List.mem_of_mem_take hc)
    · rw [List.eq_of_mem_replicate hc]; omega
theorem rep0_byte (n : Nat) : byteW (List.replicate n 0) := by
  intro c hc; rw [List.eq_of_mem_replicate hc]; omega

def abcS : ByteArray := ⟨#[98, 97, 55, 56, 49, 54, 98, 102, 56, 102, 48, 49, 99, 102, 101, 97, 52, 49, 52, 49, 52, 48, 100, 101, 53, 100, 97, 101, 50, 50, 50, 51, 98, 48, 48, 51, 54, 49, 97, 51, 57, 54, 49, 55, 55, 97, 57, 99, 98, 52, 49, 48, 102, 102, 54, 49, 102, 50, 48, 48, 49, 53, 97, 100]⟩
def noneS : ByteArray := ⟨#[101, 51, 98, 48, 99, 52, 52, 50, 57, 56, 102, 99, 49, 99, 49, 52, 57, 97, 102, 98, 102, 52, 99, 56, 57, 57, 54, 102, 98, 57, 50, 52, 50, 55, 97, 101, 52, 49, 101, 52, 54, 52, 57, 98, 57, 51, 52, 99, 97, 52, 57, 53, 57, 57, 49, 98, 55, 56, 53, 50, 98, 56, 53, 53]⟩
theorem txtN : (strOfNums (textL (sumM []))).data = noneS.data := by decide +kernel
theorem txtA : (strOfNums (textL (sumM [97, 98, 99]))).data = abcS.data := by decide +kernel
theorem rdA : readI (strI abcS) = sumM [97, 98, 99] := by decide +kernel
theorem rdE : readE (strI abcS) = 0 := by decide +kernel

theorem tmod_neg' {x n : Int} (hx : x < 0) : x.tmod n = -((-x) % n) := by
  have h1 : (-x).tmod n = (-x) % n := Int.tmod_eq_emod_of_nonneg (by omega)
  rw [← h1, Int.neg_tmod, Int.neg_neg]
theorem tmod_bd {x n : Int} (hn : 0 < n) : -n < x.tmod n ∧ x.tmod n < n := by
  by_cases hx : x < 0
  · have := Int.emod_nonneg (-x) (by omega : n ≠ 0)
    have := Int.emod_lt_of_pos (-x) hn
    rw [tmod_neg' hx]; omega
  · have := Int.emod_nonneg x (by omega : n ≠ 0)
    have := Int.emod_lt_of_pos x hn
    rw [Int.tmod_eq_emod_of_nonneg (by omega)]; omega
theorem emod_of {x n q s : Int} (h : x = n * q + s) (h0 : 0 ≤ s) (h1 : s < n) : x % n = s := by
  rw [h, Int.add_comm, Int.add_mul_emod_self_left, Int.emod_eq_of_lt h0 h1]
theorem pick_lt {x n : Int} (hn : 0 < n) (h : x.tmod n < 0) : x.tmod n + n = x % n := by
  have hx : x < 0 := by
    apply Classical.byContradiction
    intro hx
    have := Int.emod_nonneg x (by omega : n ≠ 0)
    rw [Int.tmod_eq_emod_of_nonneg (by omega)] at h; omega
  rw [tmod_neg' hx] at h ⊢
  have h1 := Int.emod_lt_of_pos (-x) hn
  have h2 := Int.emod_add_mul_ediv (-x) n
  refine (emod_of (q := -((-x) / n) - 1) ?_ (by omega) (by omega)).symm
  rw [Int.mul_sub, Int.mul_neg]; omega
theorem pick_ge {x n : Int} (hn : 0 < n) (h : ¬ x.tmod n < 0) : x.tmod n = x % n := by
  by_cases hx : x < 0
  · rw [tmod_neg' hx] at h ⊢
    have h1 := Int.emod_nonneg (-x) (by omega : n ≠ 0)
    have h2 := Int.emod_add_mul_ediv (-x) n
    have h3 : (-x) % n = 0 := by omega
    refine (emod_of (q := -((-x) / n)) ?_ (by omega) (by omega)).symm
    rw [Int.mul_neg]; omega
  · exact Int.tmod_eq_emod_of_nonneg (by omega)
theorem Pick_S {b : World} {F : List SP} {x n : Int} (hn : I64 n) : SC Try.prog n_entrepotkit_Pick [.int .i64 x, .int .i64 n] b F (fun v F' => v = .int .i64 (if n ≤ 0 then 0 else x % n) ∧ F' = F) := by
  unfold I64 at hn
  refine enterS F_entrepotkit_Pick rfl rfl rfl ?_
  (refine sw_seq ?_; refine sw_region ?_; refine so_1 rfl ?_; refine so_nil ?_; refine sn_then ?_; (iterate 2 refine sw_seq ?_); refine sw_region ?_; (iterate 2 refine so_1 rfl ?_); refine so_nil ?_; refine sn_then ?_)
  refine sw_if rfl (fun h => ?_) (fun h => ?_)
  · (refine sw_seq ?_; refine sw_region ?_; refine so_1 rfl ?_; refine so_nil ?_; refine sn_then ?_; refine sw_ret ?_; refine sn_then_ret ?_)
    refine sn_ret rfl (.tmp rfl .nil) (Ent.refl _) ?_
    exact ⟨by rw [if_pos h]; rfl, rfl⟩
  (refine sw_skip ?_; refine sn_then ?_; refine sw_seq ?_; refine sw_region ?_; (iterate 2 refine so_1 rfl ?_); refine so_2 rfl (by omega) ?_; refine so_1 rfl ?_; refine so_nil ?_; refine sn_then ?_; (iterate 2 refine sw_seq ?_); refine sw_region ?_; (iterate 2 refine so_1 rfl ?_); refine so_nil ?_; refine sn_then ?_)
  refine sw_if rfl (fun h2 => ?_) (fun h2 => ?_)
  · (refine sw_region ?_; (iterate 2 refine so_1 rfl ?_))
    have hb := tmod_bd (x := x) (n := n) (by omega)
    have e := pick_lt (x := x) (n := n) (by omega) h2
    (refine so_2 rfl (by (unfold I64; omega)) ?_; refine so_1 rfl ?_; refine so_nil ?_; refine sn_then ?_; refine sw_seq ?_; refine sw_region ?_; (iterate 2 refine so_1 rfl ?_); refine so_nil ?_; refine sn_then ?_; refine sw_ret ?_)
    refine sn_ret rfl (.tmp rfl .nil) (Ent.refl _) ?_
    exact ⟨by rw [if_neg h, ← e]; rfl, rfl⟩
  (refine sw_skip ?_; refine sn_then ?_; refine sw_seq ?_; refine sw_region ?_; (iterate 2 refine so_1 rfl ?_); refine so_nil ?_; refine sn_then ?_; refine sw_ret ?_)
  refine sn_ret rfl (.tmp rfl .nil) (Ent.refl _) ?_
  exact ⟨by rw [if_neg h, ← pick_ge (by omega) h2]; rfl, rfl⟩

theorem spl_u8 {l : List Int} {i : Nat} {x : Int} (h : i < l.length) : spl (u8s l) i [.int .u8 x] = u8s (l.set i x) := by
  simp only [spl, u8s, List.map_set, List.length_cons, List.length_nil, List.cons_append, List.nil_append, Nat.zero_add]
  rw [List.set_eq_take_append_cons_drop, if_pos (by simpa using h)]
theorem OverBytes_S {b : World} {F : List SP} {v : Value} {l : List Int} (hl : l.length ≤ 1048576) : SC Try.prog n_entrepotkit_OverBytes [v] b (rB v l :: F) (fun _ F' => ∃ l', F' = rB v l' :: F) := by
  refine enterS F_entrepotkit_OverBytes rfl rfl rfl ?_
  refine sw_fact (fun w H => (H.oat (k := 0) rfl).form) ?_
  rintro ⟨A, c, rfl, h1, h2, h3⟩
  (refine sw_seq ?_; refine sw_region ?_; refine so_1 rfl ?_; refine so_nil ?_; refine sn_then ?_; refine sw_block ?_)
  refine sw_loop (S := Nat × List Int) (fun s => [(0, .slice A l.length c), (2, .int .i64 (s.1 : Int))]) (fun s => row t_uint8 1 (.slice A l.length c) l.length (u8s s.2) :: F) (fun s => s.1 ≤ l.length ∧ s.2.length = l.length) (fun s => l.length - s.1) (0, l) ⟨rfl, rfl, trivial⟩ (Ent.refl _) ⟨Nat.zero_le _, rfl⟩ ?_
  rintro ⟨i, m⟩ ⟨hi, hm⟩
  dsimp only at hi hm ⊢
  ((iterate 2 refine sw_seq ?_); refine sw_region ?_; (iterate 4 refine so_1 rfl ?_); refine so_nil ?_; refine sn_then ?_)
  refine sw_if rfl (fun h => ?_) (fun h => ?_)
  · obtain ⟨g, o, rfl⟩ := h3 (by omega)
    have hvl : ∀ w, Sat b (row t_uint8 1 (.slice (some ⟨g, o, none⟩) l.length c) l.length (u8s m) :: F) w → VL (Value.int .u8) w (.slice (some ⟨g, o, none⟩) l.length c) m := fun w H => by
      have := (H.oat (k := 0) rfl).sl
      unfold VL; rw [hm]; exact this
    (refine sw_skip ?_; refine sn_then ?_; refine sw_seq ?_; refine sw_block ?_; refine sw_region ?_; (iterate 4 refine so_1 rfl ?_); refine so_2 rfl (by omega) ?_)
    refine so_rd rfl (fun w H => ex_load rfl rfl rfl (by rw [mulz_eq]; simpa using VL.at (hvl w H) i (by omega))) rfl ?_
    (refine so_1 rfl ?_; refine so_2 rfl (by omega) ?_)
    refine so_strow 0 i rfl rfl rfl rfl rfl rfl rfl rfl (spl_u8 (by omega)) rfl (by rw [mulz_eq]; simp) (by simp; omega) (u8s_one [_]) ?_
    (refine so_nil ?_; refine sn_block ?_; refine sn_then ?_; refine sw_region ?_; refine so_1 rfl ?_; refine so_2 rfl (by (unfold I64; omega)) ?_; refine so_1 rfl ?_; refine so_nil ?_)
    refine sn_round (i + 1, _) ⟨rfl, rfl, trivial⟩ (Ent.refl _) ⟨by omega, by simp [hm]⟩ ?_
    show l.length - (i + 1) < l.length - i
    omega
  (refine sw_exit ?_; refine sn_then_exit ?_; refine sn_loop_exit ?_; refine sn_block_exit ?_)
  refine sn_end rfl .nil (Ent.refl _) ?_
  exact ⟨m, by rw [rB, hm]⟩

def lent4 : List Int := [201, 202, 203, 204]
/-- Bytes with room behind them. -/
abbrev rL (A : Option Addr) (c : Nat) (l : List Int) : SP := row t_uint8 1 (.slice A (l.length + 4) c) (l.length + 4) (u8s (l ++ lent4))
theorem rL_vl {b : World} {F : List SP} {A : Option Addr} {c k : Nat} {l : List Int} (hk : nth F k = some (rL A c l)) : ∀ w, Sat b F w → VL (Value.int .u8) w (.slice A l.length c) l := fun w H => by
  have := (Oat.take (H.oat hk) (k := l.length) (by omega)).sl
  rw [show (u8s (l ++ lent4)).take (l.length * 1) = u8s l by simp [u8s]] at this
  exact this
theorem rL_all {b : World} {F : List SP} {A : Option Addr} {c k : Nat} {l : List Int} (hk : nth F k = some (rL A c l)) : ∀ w, Sat b F w → VL (Value.int .u8) w (.slice A (l.length + 4) c) (l ++ lent4) := fun w H => by
  have := (H.oat hk).sl
  unfold VL
  rw [show (l ++ lent4).length = l.length + 4 by simp [lent4]]
  exact this
theorem LentBytes_S {b : World} {F : List SP} {va : Value} {l : List Int} (hl : l.length ≤ 1000000) (ha : ∀ w, Sat b F w → VL (Value.int .u8) w va l) :
    SC Try.prog n_entrepotkit_LentBytes [va] b F (fun v F' => ∃ A c, v = .slice A l.length c ∧ F' = rL A c l :: F) := by
  refine enterS F_entrepotkit_LentBytes rfl rfl rfl ?_
  refine sw_fact (fun w H => (ha w H).form) ?_
  rintro ⟨A, c, rfl, h1, h2, h3, h4⟩
  (refine sw_seq ?_; refine sw_region ?_; refine so_1 rfl ?_; refine so_nil ?_; refine sn_then ?_; refine sw_seq ?_; refine sw_region ?_)
  refine so_lit [] rfl rfl rfl rfl rfl rfl rfl rfl rfl fun g0 => ?_
  refine so_ent (ent_blk_row (n := 0) (sz := 1) rfl rfl (by decide) 0 rfl rfl) ?_
  (refine so_1 rfl ?_)
  refine so_append 0 rfl rfl rfl rfl rfl rfl rfl rfl rfl (up ha (ent_keep 1 [] rfl rfl)) (u8s_one _) (by omega) (fun _ => rfl) fun v6 => ?_
  refine so_lit [.int .u8 201, .int .u8 202, .int .u8 203, .int .u8 204] rfl rfl rfl rfl rfl rfl rfl rfl rfl fun g7 => ?_
  refine so_append 1 rfl rfl rfl rfl rfl rfl rfl rfl rfl (vl1 (l := lent4) (k := 0) rfl (by decide) rfl) (u8s_one lent4) (by simp [lent4]; omega) (fun _ => rfl) fun v8 => ?_
  refine so_fact (fun w H => (H.oat (k := 1) rfl).form) ?_
  rintro ⟨A8, c8, rfl, k1, k2, k3⟩
  have e4 : 0 + l.length + lent4.length = l.length + 4 := by simp [lent4]
  rw [e4] at k1 ⊢
  refine so_ent ((ent_set (B := rL A8 c8 l) 1 rfl (fun h hA => by simpa [rL] using hA) rfl).trans (ent_keep 2 [1] rfl rfl)) ?_
  (refine so_1 rfl ?_; refine so_nil ?_; refine sn_then ?_; refine sw_seq ?_; refine sw_region ?_; (iterate 3 refine so_1 rfl ?_); refine so_2 rfl (by omega) ?_; refine so_1 rfl ?_; refine so_nil ?_; refine sn_then ?_; refine sw_ret ?_)
  refine sn_ret rfl (.tmp rfl .nil) (Ent.refl _) ?_
  exact ⟨A8, c8, rfl, rfl⟩
theorem sd_re {P : Program} {ro : Option Nat} {N : Nat} {fl : Oper → Bool} {l rest : List Oper} {kk : Nat} {Q : Exit → Act → World → Prop} {E : List (Nat × Value)} {ds : List Deferred} {b : World} {F0 F : List SP}
    {d : Nat} {op : Op} {ty : TypeId} {pos : String} {aft : Array Edge} {g : Option (Nat × Bool)} {v : Value} (hg : wants l E g = some true) (hf : fl ⟨some d, op, ty, pos, aft, g⟩ = false) (hx : ∀ w, Sat b F w → Ex P E op ty w v w) (hd : Nat.blt d N = true) (he : Ent F F0)
    (h : SD P fl ro N F0 l (kk + 1) rest Q ((d, v) :: E) ds b F) : SD P fl ro N F0 l kk (⟨some d, op, ty, pos, aft, g⟩ :: rest) Q E ds b F := by
  constructor
  intro w H
  exact dw_ex hg hf (hx w H) (H.ent he) hd (h.1 w H)
def floN (n : Nat) (o : Oper) : Bool := flo o && (match o.dst with | some d => !Nat.beq d n | none => true)
theorem KeptBytes_S {b : World} {F : List SP} {A : Option Addr} {c : Nat} {vb : Value} {l : List Int} (hl : l.length ≤ 1000000) (hb : ∀ w, Sat b F w → VL (Value.int .u8) w vb l) :
    SC Try.prog n_entrepotkit_KeptBytes [.slice A l.length c, vb] b (rL A c l :: F) (fun v F' => v = .bool true ∧ F' = rL A c l :: F) := by
  refine enterS F_entrepotkit_KeptBytes rfl rfl rfl ?_
  refine sw_fact (fun w H => (hb w (H.ent (ent_keep 1 [] rfl rfl))).form) ?_
  rintro ⟨bA, bc, rfl, h1, h2, h3, h4⟩
  refine sw_fact (fun w H => (H.oat (k := 0) rfl).form) ?_
  rintro ⟨A', c', hv, k1, k2, k3⟩
  cases hv
  obtain ⟨gg, oo, rfl⟩ := k3 (by omega)
  (refine sw_seq ?_; refine sw_region ?_; refine so_1 rfl ?_; refine so_nil ?_; refine sn_then ?_; refine sw_seq ?_; refine sw_region ?_; (iterate 3 refine so_1 rfl ?_); refine so_2 rfl (by omega) ?_; refine so_1 rfl ?_; refine so_nil ?_; refine sn_then ?_; refine sw_seq ?_)
  refine sw_draw (floN 40) (rL (some ⟨gg, oo, none⟩) c l :: F) (by decide +kernel) (Ent.refl _) ?_
  ((iterate 6 refine sd_1 rfl (.inl rfl) ?_))
  refine sd_know 15 (.bool true) rfl (congrArg Value.bool (decide_eq_true rfl)) ?_
  (refine sd_1 rfl (.inl rfl) ?_)
  refine sd_b2s rfl rfl rfl rfl rfl rfl rfl rfl (rL_vl (k := 0) rfl) ?_
  (refine sd_1 rfl (.inl rfl) ?_)
  refine sd_b2s rfl rfl rfl rfl rfl rfl rfl rfl (up hb (ent_keep 1 [] rfl rfl)) ?_
  ((iterate 3 refine sd_1 rfl (.inl rfl) ?_))
  refine sd_know 22 (.bool true) rfl (congrArg Value.bool (decide_eq_true rfl)) ?_
  ((iterate 4 refine sd_1 rfl (.inl rfl) ?_); refine sd_2 rfl rfl (by (unfold I64; omega)) ?_; (iterate 3 refine sd_1 rfl (.inl rfl) ?_))
  refine sd_know 30 (.bool true) rfl (congrArg Value.bool (decide_eq_true (by omega))) ?_
  ((iterate 5 refine sd_1 rfl (.inl rfl) ?_); refine sd_2 rfl rfl (by (unfold I64; omega)) ?_; refine sd_2 rfl rfl (by omega) ?_)
  have e1 : ((l.length : Int)).toNat = l.length := by omega
  have e2 : ((l.length : Int) + 4).toNat - l.length = 4 := by omega
  refine sd_know 37 (.slice (some ⟨gg, oo + l.length, none⟩) 4 (c - l.length)) rfl (by rw [e1, e2, sl_at (by omega)]) ?_
  refine sd_b2s (xs := lent4) rfl rfl rfl rfl rfl rfl rfl rfl (fun w H => ?_) ?_
  · have := VL.sub (l := l.length) (h := l.length + 4) (A' := some ⟨gg, oo + l.length, none⟩) (c' := c - l.length) (rL_all (k := 0) rfl w H) (by omega) (by simp [lent4]) (by omega) (by omega) (fun _ bk off he => by cases he; rfl) (fun he => by cases he)
    rw [show l.length + 4 - l.length = 4 by omega] at this
    rwa [show ((l ++ lent4).take (l.length + 4)).drop l.length = lent4 by rw [List.take_of_length_le (by simp [lent4])]; simp] at this
  refine sd_lit (lent4.map (Value.int .u8)) rfl rfl rfl rfl rfl rfl rfl rfl rfl rfl (Ent.refl _) fun g2 => ?_
  refine sd_re rfl rfl (fun w H => ex_b2s rfl rfl rfl rfl (vl1 (l := lent4) (k := 0) rfl (by decide) rfl w H)) rfl (ent_keep 1 [] rfl rfl) ?_
  ((iterate 3 refine sd_1 rfl (.inl rfl) ?_))
  refine sd_nil ?_
  (refine sn_then ?_; refine sw_ret ?_)
  refine sn_ret rfl (.tmp rfl .nil) (ent_keep 1 [] rfl rfl) ?_
  exact ⟨by simp [tupl], rfl⟩
end Go.Proofs.Ytjfileaidgknjaa
/- Digests, part twenty-four: what a row's arguments are to the walks. Conditions: none. -/
namespace Go.Proofs.Ytjfileaidgknjaa
open Go.Eng Go.RowKit
theorem byteW_of {xs : List Int} (h : ∀ x ∈ xs, (Lit.int .u8 x).wf = true) : byteW xs := by
  intro x hx
  have := h x hx
  simp [Lit.wf, IntKind.min, IntKind.max, IntKind.signed, IntKind.bits] at this
  omega
end Go.Proofs.Ytjfileaidgknjaa
