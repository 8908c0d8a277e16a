/- The types and the functions of this seat's program, as the engine asks for them: laid by a program (seatgen.py) out of the translation. Conditions: none. -/
import Derived.Test.YtplkinnaccpomaaChecked
import Derived.Test.YtplkinnaccpomaaEngJ
import Derived.KernelRfl
namespace Go.Proofs.Ytplkinnaccpomaa
open Go.Eng
def ti1 : TI := ⟨.func #[] #[] false, 1, 8, .nilFunc, []⟩
theorem g1 : good Try.prog (1, ti1) := good_d rfl (by kernel_rfl) (by kernel_rfl)
def ti2 : TI := ⟨.int .i64, 1, 8, .int .i64 0, []⟩
theorem g2 : good Try.prog (2, ti2) := good_d rfl (by kernel_rfl) (by kernel_rfl)
def ti3 : TI := ⟨.int .i64, 1, 8, .int .i64 0, []⟩
theorem g3 : good Try.prog (3, ti3) := good_d rfl (by kernel_rfl) (by kernel_rfl)
def ti4 : TI := ⟨.bool, 1, 1, .bool false, []⟩
theorem g4 : good Try.prog (4, ti4) := good_d rfl (by kernel_rfl) (by kernel_rfl)
def ti5 : TI := ⟨.int .u8, 1, 1, .int .u8 0, []⟩
theorem g5 : good Try.prog (5, ti5) := good_d rfl (by kernel_rfl) (by kernel_rfl)
def ti6 : TI := ⟨.int .u8, 1, 1, .int .u8 0, []⟩
theorem g6 : good Try.prog (6, ti6) := good_d rfl (by kernel_rfl) (by kernel_rfl)
def ti7 : TI := ⟨.struct #[], 4, 24, .agg ⟨[.int .i64 0, .int .i64 0, .bool false, .int .u8 0]⟩, [(2, 0), (3, 1), (4, 2), (6, 3)]⟩
theorem g7 : good Try.prog (7, ti7) := good_s rfl (by kernel_rfl) (by kernel_rfl)
def ti8 : TI := ⟨.struct #[], 4, 24, .agg ⟨[.int .i64 0, .int .i64 0, .bool false, .int .u8 0]⟩, [(2, 0), (3, 1), (4, 2), (6, 3)]⟩
theorem g8 : good Try.prog (8, ti8) := good_s rfl (by kernel_rfl) (by kernel_rfl)
def ti9 : TI := ⟨.string, 1, 16, .string ⟨⟨[]⟩⟩, []⟩
theorem g9 : good Try.prog (9, ti9) := good_d rfl (by kernel_rfl) (by kernel_rfl)
def ti10 : TI := ⟨.string, 1, 16, .string ⟨⟨[]⟩⟩, []⟩
theorem g10 : good Try.prog (10, ti10) := good_d rfl (by kernel_rfl) (by kernel_rfl)
def ti11 : TI := ⟨.string, 1, 16, .string ⟨⟨[]⟩⟩, []⟩
theorem g11 : good Try.prog (11, ti11) := good_d rfl (by kernel_rfl) (by kernel_rfl)
def ti12 : TI := ⟨.int .u64, 1, 8, .int .u64 0, []⟩
theorem g12 : good Try.prog (12, ti12) := good_d rfl (by kernel_rfl) (by kernel_rfl)
def ti13 : TI := ⟨.struct #[], 2, 24, .agg ⟨[.string ⟨⟨[]⟩⟩, .int .u64 0]⟩, [(9, 0), (12, 1)]⟩
theorem g13 : good Try.prog (13, ti13) := good_s rfl (by kernel_rfl) (by kernel_rfl)
def ti14 : TI := ⟨.struct #[], 2, 24, .agg ⟨[.string ⟨⟨[]⟩⟩, .int .u64 0]⟩, [(9, 0), (12, 1)]⟩
theorem g14 : good Try.prog (14, ti14) := good_s rfl (by kernel_rfl) (by kernel_rfl)
def ti15 : TI := ⟨.pointer 58, 1, 8, .pointer none, []⟩
theorem g15 : good Try.prog (15, ti15) := good_d rfl (by kernel_rfl) (by kernel_rfl)
def ti16 : TI := ⟨.pointer 61, 1, 8, .pointer none, []⟩
theorem g16 : good Try.prog (16, ti16) := good_d rfl (by kernel_rfl) (by kernel_rfl)
def ti17 : TI := ⟨.pointer 71, 1, 8, .pointer none, []⟩
theorem g17 : good Try.prog (17, ti17) := good_d rfl (by kernel_rfl) (by kernel_rfl)
def ti18 : TI := ⟨.struct #[], 1, 8, .agg ⟨[.pointer none]⟩, [(17, 0)]⟩
theorem g18 : good Try.prog (18, ti18) := good_s rfl (by kernel_rfl) (by kernel_rfl)
def ti19 : TI := ⟨.struct #[], 1, 8, .agg ⟨[.pointer none]⟩, [(17, 0)]⟩
theorem g19 : good Try.prog (19, ti19) := good_s rfl (by kernel_rfl) (by kernel_rfl)
def ti21 : TI := ⟨.int .i32, 1, 4, .int .i32 0, []⟩
theorem g21 : good Try.prog (21, ti21) := good_d rfl (by kernel_rfl) (by kernel_rfl)
def ti22 : TI := ⟨.slice 3, 1, 24, .slice none 0 0, []⟩
theorem g22 : good Try.prog (22, ti22) := good_d rfl (by kernel_rfl) (by kernel_rfl)
def ti23 : TI := ⟨.struct #[], 2, 16, .agg ⟨[.int .i64 0, .int .i64 0]⟩, [(3, 0), (3, 1)]⟩
theorem g23 : good Try.prog (23, ti23) := good_s rfl (by kernel_rfl) (by kernel_rfl)
def ti24 : TI := ⟨.struct #[], 2, 16, .agg ⟨[.int .i64 0, .int .i64 0]⟩, [(3, 0), (3, 1)]⟩
theorem g24 : good Try.prog (24, ti24) := good_s rfl (by kernel_rfl) (by kernel_rfl)
def ti25 : TI := ⟨.func #[] #[4] false, 1, 8, .nilFunc, []⟩
theorem g25 : good Try.prog (25, ti25) := good_d rfl (by kernel_rfl) (by kernel_rfl)
def ti26 : TI := ⟨.func #[22] #[22] false, 1, 8, .nilFunc, []⟩
theorem g26 : good Try.prog (26, ti26) := good_d rfl (by kernel_rfl) (by kernel_rfl)
def ti27 : TI := ⟨.func #[22, 22] #[22] false, 1, 8, .nilFunc, []⟩
theorem g27 : good Try.prog (27, ti27) := good_d rfl (by kernel_rfl) (by kernel_rfl)
def ti28 : TI := ⟨.func #[22, 24] #[22] false, 1, 8, .nilFunc, []⟩
theorem g28 : good Try.prog (28, ti28) := good_d rfl (by kernel_rfl) (by kernel_rfl)
def ti29 : TI := ⟨.func #[22, 22] #[4] false, 1, 8, .nilFunc, []⟩
theorem g29 : good Try.prog (29, ti29) := good_d rfl (by kernel_rfl) (by kernel_rfl)
def ti30 : TI := ⟨.func #[22] #[] false, 1, 8, .nilFunc, []⟩
theorem g30 : good Try.prog (30, ti30) := good_d rfl (by kernel_rfl) (by kernel_rfl)
def ti31 : TI := ⟨.func #[22, 3] #[3] false, 1, 8, .nilFunc, []⟩
theorem g31 : good Try.prog (31, ti31) := good_d rfl (by kernel_rfl) (by kernel_rfl)
def ti32 : TI := ⟨.func #[22, 24] #[4] false, 1, 8, .nilFunc, []⟩
theorem g32 : good Try.prog (32, ti32) := good_d rfl (by kernel_rfl) (by kernel_rfl)
def ti33 : TI := ⟨.func #[22, 3] #[24] false, 1, 8, .nilFunc, []⟩
theorem g33 : good Try.prog (33, ti33) := good_d rfl (by kernel_rfl) (by kernel_rfl)
def ti34 : TI := ⟨.func #[22, 22, 24, 3] #[4] false, 1, 8, .nilFunc, []⟩
theorem g34 : good Try.prog (34, ti34) := good_d rfl (by kernel_rfl) (by kernel_rfl)
def ti35 : TI := ⟨.func #[22] #[3] false, 1, 8, .nilFunc, []⟩
theorem g35 : good Try.prog (35, ti35) := good_d rfl (by kernel_rfl) (by kernel_rfl)
def ti36 : TI := ⟨.func #[24, 22, 24, 22] #[4] false, 1, 8, .nilFunc, []⟩
theorem g36 : good Try.prog (36, ti36) := good_d rfl (by kernel_rfl) (by kernel_rfl)
def ti37 : TI := ⟨.func #[22] #[22] true, 1, 8, .nilFunc, []⟩
theorem g37 : good Try.prog (37, ti37) := good_d rfl (by kernel_rfl) (by kernel_rfl)
def ti38 : TI := ⟨.func #[3, 3] #[24] false, 1, 8, .nilFunc, []⟩
theorem g38 : good Try.prog (38, ti38) := good_d rfl (by kernel_rfl) (by kernel_rfl)
def ti39 : TI := ⟨.func #[22, 22, 22] #[4] false, 1, 8, .nilFunc, []⟩
theorem g39 : good Try.prog (39, ti39) := good_d rfl (by kernel_rfl) (by kernel_rfl)
def ti40 : TI := ⟨.func #[3, 3] #[3] false, 1, 8, .nilFunc, []⟩
theorem g40 : good Try.prog (40, ti40) := good_d rfl (by kernel_rfl) (by kernel_rfl)
def ti41 : TI := ⟨.func #[22] #[4] false, 1, 8, .nilFunc, []⟩
theorem g41 : good Try.prog (41, ti41) := good_d rfl (by kernel_rfl) (by kernel_rfl)
def ti42 : TI := ⟨.func #[24, 22, 24, 22, 24, 22] #[4] false, 1, 8, .nilFunc, []⟩
theorem g42 : good Try.prog (42, ti42) := good_d rfl (by kernel_rfl) (by kernel_rfl)
def ti43 : TI := ⟨.func #[22, 22, 40] #[22] false, 1, 8, .nilFunc, []⟩
theorem g43 : good Try.prog (43, ti43) := good_d rfl (by kernel_rfl) (by kernel_rfl)
def ti44 : TI := ⟨.func #[46, 4, 48] #[4] false, 1, 8, .nilFunc, []⟩
theorem g44 : good Try.prog (44, ti44) := good_d rfl (by kernel_rfl) (by kernel_rfl)
def ti45 : TI := ⟨.func #[54] #[] false, 1, 8, .nilFunc, []⟩
theorem g45 : good Try.prog (45, ti45) := good_d rfl (by kernel_rfl) (by kernel_rfl)
def ti46 : TI := ⟨.func #[54] #[] false, 1, 8, .nilFunc, []⟩
theorem g46 : good Try.prog (46, ti46) := good_d rfl (by kernel_rfl) (by kernel_rfl)
def ti47 : TI := ⟨.func #[22, 22] #[46] false, 1, 8, .nilFunc, []⟩
theorem g47 : good Try.prog (47, ti47) := good_d rfl (by kernel_rfl) (by kernel_rfl)
def ti48 : TI := ⟨.func #[4, 3, 3] #[4] false, 1, 8, .nilFunc, []⟩
theorem g48 : good Try.prog (48, ti48) := good_d rfl (by kernel_rfl) (by kernel_rfl)
def ti49 : TI := ⟨.func #[46, 3, 50] #[3] false, 1, 8, .nilFunc, []⟩
theorem g49 : good Try.prog (49, ti49) := good_d rfl (by kernel_rfl) (by kernel_rfl)
def ti50 : TI := ⟨.func #[3, 3, 3] #[3] false, 1, 8, .nilFunc, []⟩
theorem g50 : good Try.prog (50, ti50) := good_d rfl (by kernel_rfl) (by kernel_rfl)
def ti51 : TI := ⟨.func #[22, 22, 40] #[3] false, 1, 8, .nilFunc, []⟩
theorem g51 : good Try.prog (51, ti51) := good_d rfl (by kernel_rfl) (by kernel_rfl)
def ti52 : TI := ⟨.func #[46, 22, 53] #[22] false, 1, 8, .nilFunc, []⟩
theorem g52 : good Try.prog (52, ti52) := good_d rfl (by kernel_rfl) (by kernel_rfl)
def ti53 : TI := ⟨.func #[22, 3, 3] #[22] false, 1, 8, .nilFunc, []⟩
theorem g53 : good Try.prog (53, ti53) := good_d rfl (by kernel_rfl) (by kernel_rfl)
def ti54 : TI := ⟨.func #[3, 3] #[4] false, 1, 8, .nilFunc, []⟩
theorem g54 : good Try.prog (54, ti54) := good_d rfl (by kernel_rfl) (by kernel_rfl)
def ti55 : TI := ⟨.func #[3] #[4] false, 1, 8, .nilFunc, []⟩
theorem g55 : good Try.prog (55, ti55) := good_d rfl (by kernel_rfl) (by kernel_rfl)
def ti56 : TI := ⟨.func #[] #[9] false, 1, 8, .nilFunc, []⟩
theorem g56 : good Try.prog (56, ti56) := good_d rfl (by kernel_rfl) (by kernel_rfl)
def ti57 : TI := ⟨.struct #[], 4, 40, .agg ⟨[.pointer none, .pointer none, .pointer none, .string ⟨⟨[]⟩⟩]⟩, [(17, 0), (17, 1), (17, 2), (9, 3)]⟩
theorem g57 : good Try.prog (57, ti57) := good_s rfl (by kernel_rfl) (by kernel_rfl)
def ti58 : TI := ⟨.struct #[], 4, 40, .agg ⟨[.pointer none, .pointer none, .pointer none, .string ⟨⟨[]⟩⟩]⟩, [(17, 0), (17, 1), (17, 2), (9, 3)]⟩
theorem g58 : good Try.prog (58, ti58) := good_s rfl (by kernel_rfl) (by kernel_rfl)
def ti59 : TI := ⟨.array 0 16, 0, 0, .agg ⟨[]⟩, []⟩
theorem g59 : good Try.prog (59, ti59) := good_d rfl (by kernel_rfl) (by kernel_rfl)
def ti60 : TI := ⟨.struct #[], 0, 0, .agg ⟨[]⟩, [(59, 0)]⟩
theorem g60 : good Try.prog (60, ti60) := good_s rfl (by kernel_rfl) (by kernel_rfl)
def ti61 : TI := ⟨.struct #[], 0, 0, .agg ⟨[]⟩, [(59, 0)]⟩
theorem g61 : good Try.prog (61, ti61) := good_s rfl (by kernel_rfl) (by kernel_rfl)
def ti62 : TI := ⟨.func #[] #[3] false, 1, 8, .nilFunc, []⟩
theorem g62 : good Try.prog (62, ti62) := good_d rfl (by kernel_rfl) (by kernel_rfl)
def ti63 : TI := ⟨.int .u32, 1, 4, .int .u32 0, []⟩
theorem g63 : good Try.prog (63, ti63) := good_d rfl (by kernel_rfl) (by kernel_rfl)
def ti64 : TI := ⟨.int .u8, 1, 1, .int .u8 0, []⟩
theorem g64 : good Try.prog (64, ti64) := good_d rfl (by kernel_rfl) (by kernel_rfl)
def ti65 : TI := ⟨.int .u8, 1, 1, .int .u8 0, []⟩
theorem g65 : good Try.prog (65, ti65) := good_d rfl (by kernel_rfl) (by kernel_rfl)
def ti66 : TI := ⟨.func #[72, 72] #[4] false, 1, 8, .nilFunc, []⟩
theorem g66 : good Try.prog (66, ti66) := good_d rfl (by kernel_rfl) (by kernel_rfl)
def ti67 : TI := ⟨.pointer 5, 1, 8, .pointer none, []⟩
theorem g67 : good Try.prog (67, ti67) := good_d rfl (by kernel_rfl) (by kernel_rfl)
def ti68 : TI := ⟨.int .i32, 1, 4, .int .i32 0, []⟩
theorem g68 : good Try.prog (68, ti68) := good_d rfl (by kernel_rfl) (by kernel_rfl)
def ti69 : TI := ⟨.int .i32, 1, 4, .int .i32 0, []⟩
theorem g69 : good Try.prog (69, ti69) := good_d rfl (by kernel_rfl) (by kernel_rfl)
def ti70 : TI := ⟨.struct #[], 11, 48, .agg ⟨[.int .u64 0, .int .u64 0, .int .u32 0, .int .u8 0, .int .u8 0, .int .u8 0, .int .u8 0, .nilFunc, .pointer none, .int .i32 0, .int .i32 0]⟩, [(12, 0), (12, 1), (63, 2), (64, 3), (5, 4), (5, 5), (65, 6), (66, 7), (67, 8), (68, 9), (69, 10)]⟩
theorem g70 : good Try.prog (70, ti70) := good_s rfl (by kernel_rfl) (by kernel_rfl)
def ti71 : TI := ⟨.struct #[], 11, 48, .agg ⟨[.int .u64 0, .int .u64 0, .int .u32 0, .int .u8 0, .int .u8 0, .int .u8 0, .int .u8 0, .nilFunc, .pointer none, .int .i32 0, .int .i32 0]⟩, [(12, 0), (12, 1), (63, 2), (64, 3), (5, 4), (5, 5), (65, 6), (66, 7), (67, 8), (68, 9), (69, 10)]⟩
theorem g71 : good Try.prog (71, ti71) := good_s rfl (by kernel_rfl) (by kernel_rfl)
def tts : List (Nat × TI) := [(1, ti1), (2, ti2), (3, ti3), (4, ti4), (5, ti5), (6, ti6), (7, ti7), (8, ti8), (9, ti9), (10, ti10), (11, ti11), (12, ti12), (13, ti13), (14, ti14), (15, ti15), (16, ti16), (17, ti17), (18, ti18), (19, ti19), (21, ti21), (22, ti22), (23, ti23), (24, ti24), (25, ti25), (26, ti26), (27, ti27), (28, ti28), (29, ti29), (30, ti30), (31, ti31), (32, ti32), (33, ti33), (34, ti34), (35, ti35), (36, ti36), (37, ti37), (38, ti38), (39, ti39), (40, ti40), (41, ti41), (42, ti42), (43, ti43), (44, ti44), (45, ti45), (46, ti46), (47, ti47), (48, ti48), (49, ti49), (50, ti50), (51, ti51), (52, ti52), (53, ti53), (54, ti54), (55, ti55), (56, ti56), (57, ti57), (58, ti58), (59, ti59), (60, ti60), (61, ti61), (62, ti62), (63, ti63), (64, ti64), (65, ti65), (66, ti66), (67, ti67), (68, ti68), (69, ti69), (70, ti70), (71, ti71)]
theorem tts_good : ∀ p ∈ tts, good Try.prog p := by
  intro p hp
  simp only [tts, List.mem_cons, List.not_mem_nil, or_false] at hp
  rcases hp with rfl | rfl | rfl | rfl | rfl | rfl | rfl | rfl | rfl | rfl | rfl | rfl | rfl | rfl | rfl | rfl | rfl | rfl | rfl | rfl | rfl | rfl | rfl | rfl | rfl | rfl | rfl | rfl | rfl | rfl | rfl | rfl | rfl | rfl | rfl | rfl | rfl | rfl | rfl | rfl | rfl | rfl | rfl | rfl | rfl | rfl | rfl | rfl | rfl | rfl | rfl | rfl | rfl | rfl | rfl | rfl | rfl | rfl | rfl | rfl | rfl | rfl | rfl | rfl | rfl | rfl | rfl | rfl | rfl | rfl
  · exact g1
  · exact g2
  · exact g3
  · exact g4
  · exact g5
  · exact g6
  · exact g7
  · exact g8
  · exact g9
  · exact g10
  · exact g11
  · exact g12
  · exact g13
  · exact g14
  · exact g15
  · exact g16
  · exact g17
  · exact g18
  · exact g19
  · exact g21
  · exact g22
  · exact g23
  · exact g24
  · exact g25
  · exact g26
  · exact g27
  · exact g28
  · exact g29
  · exact g30
  · exact g31
  · exact g32
  · exact g33
  · exact g34
  · exact g35
  · exact g36
  · exact g37
  · exact g38
  · exact g39
  · exact g40
  · exact g41
  · exact g42
  · exact g43
  · exact g44
  · exact g45
  · exact g46
  · exact g47
  · exact g48
  · exact g49
  · exact g50
  · exact g51
  · exact g52
  · exact g53
  · exact g54
  · exact g55
  · exact g56
  · exact g57
  · exact g58
  · exact g59
  · exact g60
  · exact g61
  · exact g62
  · exact g63
  · exact g64
  · exact g65
  · exact g66
  · exact g67
  · exact g68
  · exact g69
  · exact g70
  · exact g71
theorem tts_sane : ∀ p ∈ tts, p.2.flds ≠ [(0, 99999)] := by decide
instance : TT Try.prog (lookT tts) := TT.of_list tts_good tts_sane
instance : Mixed Try.prog := ⟨by kernel_rfl⟩
abbrev n_entrepotlaw14_VectorTells : Nat := 3
theorem F_entrepotlaw14_VectorTells : Try.prog.funcs[n_entrepotlaw14_VectorTells]? = some Try.f3 := Try.func3
abbrev n_entrepotlaw14_VectorOrders : Nat := 4
theorem F_entrepotlaw14_VectorOrders : Try.prog.funcs[n_entrepotlaw14_VectorOrders]? = some Try.f4 := Try.func4
abbrev n_entrepotlaw14_VectorKnown : Nat := 5
theorem F_entrepotlaw14_VectorKnown : Try.prog.funcs[n_entrepotlaw14_VectorKnown]? = some Try.f5 := Try.func5
abbrev n_entrepotlaw14_VectorLattice : Nat := 6
theorem F_entrepotlaw14_VectorLattice : Try.prog.funcs[n_entrepotlaw14_VectorLattice]? = some Try.f6 := Try.func6
abbrev n_entrepotlaw14_VectorDots : Nat := 7
theorem F_entrepotlaw14_VectorDots : Try.prog.funcs[n_entrepotlaw14_VectorDots]? = some Try.f7 := Try.func7
abbrev n_entrepotlaw14_VectorEvents : Nat := 8
theorem F_entrepotlaw14_VectorEvents : Try.prog.funcs[n_entrepotlaw14_VectorEvents]? = some Try.f8 := Try.func8
abbrev n_entrepotlaw14_awake : Nat := 9
theorem F_entrepotlaw14_awake : Try.prog.funcs[n_entrepotlaw14_awake]? = some Try.f9 := Try.func9
abbrev n_entrepotkit_CopyInts : Nat := 10
theorem F_entrepotkit_CopyInts : Try.prog.funcs[n_entrepotkit_CopyInts]? = some Try.f10 := Try.func10
abbrev n_vector_Join : Nat := 11
theorem F_vector_Join : Try.prog.funcs[n_vector_Join]? = some Try.f11 := Try.func11
abbrev n_vector_Meet : Nat := 12
theorem F_vector_Meet : Try.prog.funcs[n_vector_Meet]? = some Try.f12 := Try.func12
abbrev n_vector_With : Nat := 13
theorem F_vector_With : Try.prog.funcs[n_vector_With]? = some Try.f13 := Try.func13
abbrev n_entrepotkit_SameInts : Nat := 14
theorem F_entrepotkit_SameInts : Try.prog.funcs[n_entrepotkit_SameInts]? = some Try.f14 := Try.func14
abbrev n_entrepotref14_Join : Nat := 15
theorem F_entrepotref14_Join : Try.prog.funcs[n_entrepotref14_Join]? = some Try.f15 := Try.func15
abbrev n_entrepotref14_Meet : Nat := 16
theorem F_entrepotref14_Meet : Try.prog.funcs[n_entrepotref14_Meet]? = some Try.f16 := Try.func16
abbrev n_entrepotref14_With : Nat := 17
theorem F_entrepotref14_With : Try.prog.funcs[n_entrepotref14_With]? = some Try.f17 := Try.func17
abbrev n_entrepotkit_OverInts : Nat := 18
theorem F_entrepotkit_OverInts : Try.prog.funcs[n_entrepotkit_OverInts]? = some Try.f18 := Try.func18
abbrev n_vector_At : Nat := 19
theorem F_vector_At : Try.prog.funcs[n_vector_At]? = some Try.f19 := Try.func19
abbrev n_entrepotref14_At : Nat := 20
theorem F_entrepotref14_At : Try.prog.funcs[n_entrepotref14_At]? = some Try.f20 := Try.func20
abbrev n_vector_Has : Nat := 21
theorem F_vector_Has : Try.prog.funcs[n_vector_Has]? = some Try.f21 := Try.func21
abbrev n_entrepotref14_Has : Nat := 22
theorem F_entrepotref14_Has : Try.prog.funcs[n_entrepotref14_Has]? = some Try.f22 := Try.func22
abbrev n_vector_Leq : Nat := 23
theorem F_vector_Leq : Try.prog.funcs[n_vector_Leq]? = some Try.f23 := Try.func23
abbrev n_entrepotref14_Leq : Nat := 24
theorem F_entrepotref14_Leq : Try.prog.funcs[n_entrepotref14_Leq]? = some Try.f24 := Try.func24
abbrev n_vector_Same : Nat := 25
theorem F_vector_Same : Try.prog.funcs[n_vector_Same]? = some Try.f25 := Try.func25
abbrev n_entrepotref14_Same : Nat := 26
theorem F_entrepotref14_Same : Try.prog.funcs[n_entrepotref14_Same]? = some Try.f26 := Try.func26
abbrev n_vector_Next : Nat := 27
theorem F_vector_Next : Try.prog.funcs[n_vector_Next]? = some Try.f27 := Try.func27
abbrev n_entrepotref14_Next : Nat := 28
theorem F_entrepotref14_Next : Try.prog.funcs[n_entrepotref14_Next]? = some Try.f28 := Try.func28
abbrev n_vector_Weight : Nat := 29
theorem F_vector_Weight : Try.prog.funcs[n_vector_Weight]? = some Try.f29 := Try.func29
abbrev n_entrepotref14_Weight : Nat := 30
theorem F_entrepotref14_Weight : Try.prog.funcs[n_entrepotref14_Weight]? = some Try.f30 := Try.func30
abbrev n_vector_Less : Nat := 31
theorem F_vector_Less : Try.prog.funcs[n_vector_Less]? = some Try.f31 := Try.func31
abbrev n_entrepotref14_Less : Nat := 32
theorem F_entrepotref14_Less : Try.prog.funcs[n_entrepotref14_Less]? = some Try.f32 := Try.func32
abbrev n_entrepotlaw14_of : Nat := 33
theorem F_entrepotlaw14_of : Try.prog.funcs[n_entrepotlaw14_of]? = some Try.f33 := Try.func33
abbrev n_entrepotlaw14_dot : Nat := 34
theorem F_entrepotlaw14_dot : Try.prog.funcs[n_entrepotlaw14_dot]? = some Try.f34 := Try.func34
abbrev n_entrepotkit_Pick : Nat := 35
theorem F_entrepotkit_Pick : Try.prog.funcs[n_entrepotkit_Pick]? = some Try.f35 := Try.func35
abbrev n_entrepotlaw14_wide : Nat := 36
theorem F_entrepotlaw14_wide : Try.prog.funcs[n_entrepotlaw14_wide]? = some Try.f36 := Try.func36
abbrev n_vector_picked : Nat := 37
theorem F_vector_picked : Try.prog.funcs[n_vector_picked]? = some Try.f37 := Try.func37
abbrev n_vector_Join_1 : Nat := 38
theorem F_vector_Join_1 : Try.prog.funcs[n_vector_Join_1]? = some Try.f38 := Try.func38
abbrev n_vector_Meet_1 : Nat := 39
theorem F_vector_Meet_1 : Try.prog.funcs[n_vector_Meet_1]? = some Try.f39 := Try.func39
abbrev n_vector_fold_bool : Nat := 40
theorem F_vector_fold_bool : Try.prog.funcs[n_vector_fold_bool]? = some Try.f40 := Try.func40
abbrev n_vector_sides : Nat := 41
theorem F_vector_sides : Try.prog.funcs[n_vector_sides]? = some Try.f41 := Try.func41
abbrev n_vector_Leq_1 : Nat := 42
theorem F_vector_Leq_1 : Try.prog.funcs[n_vector_Leq_1]? = some Try.f42 := Try.func42
abbrev n_vector_Same_1 : Nat := 43
theorem F_vector_Same_1 : Try.prog.funcs[n_vector_Same_1]? = some Try.f43 := Try.func43
abbrev n_vector_fold_int : Nat := 44
theorem F_vector_fold_int : Try.prog.funcs[n_vector_fold_int]? = some Try.f44 := Try.func44
abbrev n_vector_Weight_1 : Nat := 45
theorem F_vector_Weight_1 : Try.prog.funcs[n_vector_Weight_1]? = some Try.f45 := Try.func45
abbrev n_slices_CompareFunc_sl_int_sl_int_int_int : Nat := 46
theorem F_slices_CompareFunc_sl_int_sl_int_int_int : Try.prog.funcs[n_slices_CompareFunc_sl_int_sl_int_int_int]? = some Try.f46 := Try.func46
abbrev n_cmp_Compare_int : Nat := 47
theorem F_cmp_Compare_int : Try.prog.funcs[n_cmp_Compare_int]? = some Try.f47 := Try.func47
abbrev n_vector_fold_sl_int : Nat := 48
theorem F_vector_fold_sl_int : Try.prog.funcs[n_vector_fold_sl_int]? = some Try.f48 := Try.func48
abbrev n_vector_picked_1 : Nat := 49
theorem F_vector_picked_1 : Try.prog.funcs[n_vector_picked_1]? = some Try.f49 := Try.func49
abbrev n_vector_sides_1 : Nat := 50
theorem F_vector_sides_1 : Try.prog.funcs[n_vector_sides_1]? = some Try.f50 := Try.func50
abbrev n_cmp_isNaN_int : Nat := 51
theorem F_cmp_isNaN_int : Try.prog.funcs[n_cmp_isNaN_int]? = some Try.f51 := Try.func51
abbrev t_func : Nat := 1
abbrev t_int64 : Nat := 2
abbrev t_int : Nat := 3
abbrev t_bool : Nat := 4
abbrev t_uint8 : Nat := 5
abbrev t_abi_BoundsErrorCode : Nat := 6
abbrev t_runtime_boundsError : Nat := 8
abbrev t_string : Nat := 9
abbrev t_runtime_errorString : Nat := 10
abbrev t_runtime_plainError : Nat := 11
abbrev t_uintptr : Nat := 12
abbrev t_runtime_errorAddressString : Nat := 14
abbrev t_p_runtime_TypeAssertionError : Nat := 15
abbrev t_p_runtime_PanicNilError : Nat := 16
abbrev t_p_abi_Type : Nat := 17
abbrev t_maps_unhashableTypeError : Nat := 19
abbrev t_int32 : Nat := 21
abbrev t_sl_int : Nat := 22
abbrev t_api_Dot : Nat := 24
abbrev t_func_bool : Nat := 25
abbrev t_func_sl_int_sl_int : Nat := 26
abbrev t_func_sl_int_sl_int_sl_int : Nat := 27
abbrev t_func_sl_int_api_Dot_sl_int : Nat := 28
abbrev t_func_sl_int_sl_int_bool : Nat := 29
abbrev t_func_sl_int : Nat := 30
abbrev t_func_sl_int_int_int : Nat := 31
abbrev t_func_sl_int_api_Dot_bool : Nat := 32
abbrev t_func_sl_int_int_api_Dot : Nat := 33
abbrev t_func_sl_int_sl_int_api_Dot_int_bool : Nat := 34
abbrev t_func_sl_int_int : Nat := 35
abbrev t_func_api_Dot_sl_int_api_Dot_sl_int_bool : Nat := 36
abbrev t_func_int_sl_int : Nat := 37
abbrev t_func_int_int_api_Dot : Nat := 38
abbrev t_func_sl_int_sl_int_sl_int_bool : Nat := 39
abbrev t_func_int_int_int : Nat := 40
abbrev t_func_sl_int_bool : Nat := 41
abbrev t_func_api_Dot_sl_int_api_Dot_sl_int_api_Dot_sl_int_bool : Nat := 42
abbrev t_func_sl_int_sl_int_func_int_int_int_sl_int : Nat := 43
abbrev t_func_iter_Seq2_int_int_bool_func_bool_int_int_bool_bool : Nat := 44
abbrev t_func_func_int_int_bool : Nat := 45
abbrev t_iter_Seq2_int_int : Nat := 46
abbrev t_func_sl_int_sl_int_iter_Seq2_int_int : Nat := 47
abbrev t_func_bool_int_int_bool : Nat := 48
abbrev t_func_iter_Seq2_int_int_int_func_int_int_int_int_int : Nat := 49
abbrev t_func_int_int_int_int : Nat := 50
abbrev t_func_sl_int_sl_int_func_int_int_int_int : Nat := 51
abbrev t_func_iter_Seq2_int_int_sl_int_func_sl_int_int_int_sl_int_sl_int : Nat := 52
abbrev t_func_sl_int_int_int_sl_int : Nat := 53
abbrev t_func_int_int_bool : Nat := 54
abbrev t_func_int_bool : Nat := 55
abbrev t_func_string : Nat := 56
abbrev t_runtime_TypeAssertionError : Nat := 58
abbrev t_0_p_runtime_PanicNilError : Nat := 59
abbrev t_runtime_PanicNilError : Nat := 61
abbrev t_func_int : Nat := 62
abbrev t_uint32 : Nat := 63
abbrev t_abi_TFlag : Nat := 64
abbrev t_abi_Kind : Nat := 65
abbrev t_func_unsafe_Pointer_unsafe_Pointer_bool : Nat := 66
abbrev t_p_uint8 : Nat := 67
abbrev t_abi_NameOff : Nat := 68
abbrev t_abi_TypeOff : Nat := 69
abbrev t_abi_Type : Nat := 71
abbrev t_unsafe_Pointer : Nat := 72
instance : Bodied Try.prog 3 := bodied_of Try.func3 (by kernel_rfl) rfl -- entrepot/entrepotlaw14.VectorTells
instance : Bodied Try.prog 4 := bodied_of Try.func4 (by kernel_rfl) rfl -- entrepot/entrepotlaw14.VectorOrders
instance : Bodied Try.prog 5 := bodied_of Try.func5 (by kernel_rfl) rfl -- entrepot/entrepotlaw14.VectorKnown
instance : Bodied Try.prog 6 := bodied_of Try.func6 (by kernel_rfl) rfl -- entrepot/entrepotlaw14.VectorLattice
instance : Bodied Try.prog 7 := bodied_of Try.func7 (by kernel_rfl) rfl -- entrepot/entrepotlaw14.VectorDots
instance : Bodied Try.prog 8 := bodied_of Try.func8 (by kernel_rfl) rfl -- entrepot/entrepotlaw14.VectorEvents
instance : Bodied Try.prog 9 := bodied_of Try.func9 (by kernel_rfl) rfl -- entrepot/entrepotlaw14.awake
instance : Bodied Try.prog 10 := bodied_of Try.func10 (by kernel_rfl) rfl -- entrepot/entrepotkit.CopyInts
instance : Bodied Try.prog 11 := bodied_of Try.func11 (by kernel_rfl) rfl -- entrepot/vector.Join
instance : Bodied Try.prog 12 := bodied_of Try.func12 (by kernel_rfl) rfl -- entrepot/vector.Meet
instance : Bodied Try.prog 13 := bodied_of Try.func13 (by kernel_rfl) rfl -- entrepot/vector.With
instance : Bodied Try.prog 14 := bodied_of Try.func14 (by kernel_rfl) rfl -- entrepot/entrepotkit.SameInts
instance : Bodied Try.prog 15 := bodied_of Try.func15 (by kernel_rfl) rfl -- entrepot/entrepotref14.Join
instance : Bodied Try.prog 16 := bodied_of Try.func16 (by kernel_rfl) rfl -- entrepot/entrepotref14.Meet
instance : Bodied Try.prog 17 := bodied_of Try.func17 (by kernel_rfl) rfl -- entrepot/entrepotref14.With
instance : Bodied Try.prog 18 := bodied_of Try.func18 (by kernel_rfl) rfl -- entrepot/entrepotkit.OverInts
instance : Bodied Try.prog 19 := bodied_of Try.func19 (by kernel_rfl) rfl -- entrepot/vector.At
instance : Bodied Try.prog 20 := bodied_of Try.func20 (by kernel_rfl) rfl -- entrepot/entrepotref14.At
instance : Bodied Try.prog 21 := bodied_of Try.func21 (by kernel_rfl) rfl -- entrepot/vector.Has
instance : Bodied Try.prog 22 := bodied_of Try.func22 (by kernel_rfl) rfl -- entrepot/entrepotref14.Has
instance : Bodied Try.prog 23 := bodied_of Try.func23 (by kernel_rfl) rfl -- entrepot/vector.Leq
instance : Bodied Try.prog 24 := bodied_of Try.func24 (by kernel_rfl) rfl -- entrepot/entrepotref14.Leq
instance : Bodied Try.prog 25 := bodied_of Try.func25 (by kernel_rfl) rfl -- entrepot/vector.Same
instance : Bodied Try.prog 26 := bodied_of Try.func26 (by kernel_rfl) rfl -- entrepot/entrepotref14.Same
instance : Bodied Try.prog 27 := bodied_of Try.func27 (by kernel_rfl) rfl -- entrepot/vector.Next
instance : Bodied Try.prog 28 := bodied_of Try.func28 (by kernel_rfl) rfl -- entrepot/entrepotref14.Next
instance : Bodied Try.prog 29 := bodied_of Try.func29 (by kernel_rfl) rfl -- entrepot/vector.Weight
instance : Bodied Try.prog 30 := bodied_of Try.func30 (by kernel_rfl) rfl -- entrepot/entrepotref14.Weight
instance : Bodied Try.prog 31 := bodied_of Try.func31 (by kernel_rfl) rfl -- entrepot/vector.Less
instance : Bodied Try.prog 32 := bodied_of Try.func32 (by kernel_rfl) rfl -- entrepot/entrepotref14.Less
instance : Bodied Try.prog 33 := bodied_of Try.func33 (by kernel_rfl) rfl -- entrepot/entrepotlaw14.of
instance : Bodied Try.prog 34 := bodied_of Try.func34 (by kernel_rfl) rfl -- entrepot/entrepotlaw14.dot
instance : Bodied Try.prog 35 := bodied_of Try.func35 (by kernel_rfl) rfl -- entrepot/entrepotkit.Pick
instance : Bodied Try.prog 36 := bodied_of Try.func36 (by kernel_rfl) rfl -- entrepot/entrepotlaw14.wide
instance : Bodied Try.prog 37 := bodied_of Try.func37 (by kernel_rfl) rfl -- entrepot/vector.picked
instance : Bodied Try.prog 38 := bodied_of Try.func38 (by kernel_rfl) rfl -- entrepot/vector.Join$1
instance : Bodied Try.prog 39 := bodied_of Try.func39 (by kernel_rfl) rfl -- entrepot/vector.Meet$1
instance : Bodied Try.prog 40 := bodied_of Try.func40 (by kernel_rfl) rfl -- entrepot/vector.fold[bool]
instance : Bodied Try.prog 41 := bodied_of Try.func41 (by kernel_rfl) rfl -- entrepot/vector.sides
instance : Bodied Try.prog 42 := bodied_of Try.func42 (by kernel_rfl) rfl -- entrepot/vector.Leq$1
instance : Bodied Try.prog 43 := bodied_of Try.func43 (by kernel_rfl) rfl -- entrepot/vector.Same$1
instance : Bodied Try.prog 44 := bodied_of Try.func44 (by kernel_rfl) rfl -- entrepot/vector.fold[int]
instance : Bodied Try.prog 45 := bodied_of Try.func45 (by kernel_rfl) rfl -- entrepot/vector.Weight$1
instance : Bodied Try.prog 46 := bodied_of Try.func46 (by kernel_rfl) rfl -- slices.CompareFunc[[]int,[]int,int,int]
instance : Bodied Try.prog 47 := bodied_of Try.func47 (by kernel_rfl) rfl -- cmp.Compare[int]
instance : Bodied Try.prog 48 := bodied_of Try.func48 (by kernel_rfl) rfl -- entrepot/vector.fold[[]int]
instance : Bodied Try.prog 49 := bodied_of Try.func49 (by kernel_rfl) rfl -- entrepot/vector.picked$1
instance : Bodied Try.prog 50 := bodied_of Try.func50 (by kernel_rfl) rfl -- entrepot/vector.sides$1
instance : Bodied Try.prog 51 := bodied_of Try.func51 (by kernel_rfl) rfl -- cmp.isNaN[int]
end Go.Proofs.Ytplkinnaccpomaa
