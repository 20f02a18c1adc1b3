/- The program's types, as a table. -/
import Derived.Test.YtoecmmpjndcolaaDoorProg
import Derived.Test.YtoecmmpjndcolaaDoorQr
set_option linter.unusedSimpArgs false
set_option linter.unusedVariables false
namespace Go.AM
open Go
theorem mixed : Go.Proofs.Tryd.prog.follows .mixedOrders = true := by kernel_rfl
@[go_sem] theorem ty_2 : tyOf Go.Proofs.Tryd.prog 2 = some ⟨.int .i64, 1, 8, some [.int .i64 0]⟩ := by kernel_rfl
@[go_sem] theorem ty_3 : tyOf Go.Proofs.Tryd.prog 3 = some ⟨.int .i64, 1, 8, some [.int .i64 0]⟩ := by kernel_rfl
@[go_sem] theorem ty_4 : tyOf Go.Proofs.Tryd.prog 4 = some ⟨.bool, 1, 1, some [.bool false]⟩ := by kernel_rfl
@[go_sem] theorem ty_5 : tyOf Go.Proofs.Tryd.prog 5 = some ⟨.int .u8, 1, 1, some [.int .u8 0]⟩ := by kernel_rfl
@[go_sem] theorem ty_6 : tyOf Go.Proofs.Tryd.prog 6 = some ⟨.int .u8, 1, 1, some [.int .u8 0]⟩ := by kernel_rfl
@[go_sem] theorem ty_7 : tyOf Go.Proofs.Tryd.prog 7 = some ⟨.struct [(0, 1), (1, 1), (2, 1), (3, 1)], 4, 24, some [.int .i64 0, .int .i64 0, .bool false, .int .u8 0]⟩ := by kernel_rfl
@[go_sem] theorem ty_8 : tyOf Go.Proofs.Tryd.prog 8 = some ⟨.struct [(0, 1), (1, 1), (2, 1), (3, 1)], 4, 24, some [.int .i64 0, .int .i64 0, .bool false, .int .u8 0]⟩ := by kernel_rfl
@[go_sem] theorem ty_9 : tyOf Go.Proofs.Tryd.prog 9 = some ⟨.str, 1, 16, some [.string ⟨#[]⟩]⟩ := by kernel_rfl
@[go_sem] theorem ty_10 : tyOf Go.Proofs.Tryd.prog 10 = some ⟨.str, 1, 16, some [.string ⟨#[]⟩]⟩ := by kernel_rfl
@[go_sem] theorem ty_11 : tyOf Go.Proofs.Tryd.prog 11 = some ⟨.str, 1, 16, some [.string ⟨#[]⟩]⟩ := by kernel_rfl
@[go_sem] theorem ty_12 : tyOf Go.Proofs.Tryd.prog 12 = some ⟨.int .u64, 1, 8, some [.int .u64 0]⟩ := by kernel_rfl
@[go_sem] theorem ty_13 : tyOf Go.Proofs.Tryd.prog 13 = some ⟨.struct [(0, 1), (1, 1)], 2, 24, some [.string ⟨#[]⟩, .int .u64 0]⟩ := by kernel_rfl
@[go_sem] theorem ty_14 : tyOf Go.Proofs.Tryd.prog 14 = some ⟨.struct [(0, 1), (1, 1)], 2, 24, some [.string ⟨#[]⟩, .int .u64 0]⟩ := by kernel_rfl
@[go_sem] theorem ty_15 : tyOf Go.Proofs.Tryd.prog 15 = some ⟨.ptr 136, 1, 8, some [.pointer none]⟩ := by kernel_rfl
@[go_sem] theorem ty_16 : tyOf Go.Proofs.Tryd.prog 16 = some ⟨.ptr 139, 1, 8, some [.pointer none]⟩ := by kernel_rfl
@[go_sem] theorem ty_17 : tyOf Go.Proofs.Tryd.prog 17 = some ⟨.ptr 149, 1, 8, some [.pointer none]⟩ := by kernel_rfl
@[go_sem] theorem ty_18 : tyOf Go.Proofs.Tryd.prog 18 = some ⟨.struct [(0, 1)], 1, 8, some [.pointer none]⟩ := by kernel_rfl
@[go_sem] theorem ty_19 : tyOf Go.Proofs.Tryd.prog 19 = some ⟨.struct [(0, 1)], 1, 8, some [.pointer none]⟩ := by kernel_rfl
@[go_sem] theorem ty_20 : tyOf Go.Proofs.Tryd.prog 20 = some ⟨.ifc, 1, 16, some [.nilIface]⟩ := by kernel_rfl
@[go_sem] theorem ty_21 : tyOf Go.Proofs.Tryd.prog 21 = some ⟨.int .i32, 1, 4, some [.int .i32 0]⟩ := by kernel_rfl
@[go_sem] theorem ty_22 : tyOf Go.Proofs.Tryd.prog 22 = some ⟨.slice 55, 1, 24, some [.slice none 0 0]⟩ := by kernel_rfl
@[go_sem] theorem ty_23 : tyOf Go.Proofs.Tryd.prog 23 = some ⟨.int .i64, 1, 8, some [.int .i64 0]⟩ := by kernel_rfl
@[go_sem] theorem ty_27 : tyOf Go.Proofs.Tryd.prog 27 = some ⟨.slice 52, 1, 24, some [.slice none 0 0]⟩ := by kernel_rfl
@[go_sem] theorem ty_31 : tyOf Go.Proofs.Tryd.prog 31 = some ⟨.slice 79, 1, 24, some [.slice none 0 0]⟩ := by kernel_rfl
@[go_sem] theorem ty_36 : tyOf Go.Proofs.Tryd.prog 36 = some ⟨.slice 9, 1, 24, some [.slice none 0 0]⟩ := by kernel_rfl
@[go_sem] theorem ty_37 : tyOf Go.Proofs.Tryd.prog 37 = some ⟨.struct [(0, 1), (1, 1), (2, 1), (3, 1), (4, 1), (5, 1), (6, 1), (7, 1), (8, 1), (9, 1), (10, 1), (11, 1)], 12, 200, some [.int .i64 0, .string ⟨#[]⟩, .slice none 0 0, .slice none 0 0, .slice none 0 0, .bool false, .slice none 0 0, .string ⟨#[]⟩, .bool false, .int .i64 0, .string ⟨#[]⟩, .slice none 0 0]⟩ := by kernel_rfl
@[go_sem] theorem ty_38 : tyOf Go.Proofs.Tryd.prog 38 = some ⟨.struct [(0, 1), (1, 1), (2, 1), (3, 1), (4, 1), (5, 1), (6, 1), (7, 1), (8, 1), (9, 1), (10, 1), (11, 1)], 12, 200, some [.int .i64 0, .string ⟨#[]⟩, .slice none 0 0, .slice none 0 0, .slice none 0 0, .bool false, .slice none 0 0, .string ⟨#[]⟩, .bool false, .int .i64 0, .string ⟨#[]⟩, .slice none 0 0]⟩ := by kernel_rfl
@[go_sem] theorem ty_42 : tyOf Go.Proofs.Tryd.prog 42 = some ⟨.slice 61, 1, 24, some [.slice none 0 0]⟩ := by kernel_rfl
@[go_sem] theorem ty_51 : tyOf Go.Proofs.Tryd.prog 51 = some ⟨.struct [(0, 1), (1, 1), (2, 1)], 3, 32, some [.int .i64 0, .int .i64 0, .string ⟨#[]⟩]⟩ := by kernel_rfl
@[go_sem] theorem ty_52 : tyOf Go.Proofs.Tryd.prog 52 = some ⟨.struct [(0, 1), (1, 1), (2, 1)], 3, 32, some [.int .i64 0, .int .i64 0, .string ⟨#[]⟩]⟩ := by kernel_rfl
@[go_sem] theorem ty_54 : tyOf Go.Proofs.Tryd.prog 54 = some ⟨.struct [(0, 1), (1, 1)], 2, 24, some [.string ⟨#[]⟩, .int .i64 0]⟩ := by kernel_rfl
@[go_sem] theorem ty_55 : tyOf Go.Proofs.Tryd.prog 55 = some ⟨.struct [(0, 1), (1, 1)], 2, 24, some [.string ⟨#[]⟩, .int .i64 0]⟩ := by kernel_rfl
@[go_sem] theorem ty_60 : tyOf Go.Proofs.Tryd.prog 60 = some ⟨.struct [(0, 1), (1, 1), (2, 1)], 3, 32, some [.int .i64 0, .string ⟨#[]⟩, .int .i64 0]⟩ := by kernel_rfl
@[go_sem] theorem ty_61 : tyOf Go.Proofs.Tryd.prog 61 = some ⟨.struct [(0, 1), (1, 1), (2, 1)], 3, 32, some [.int .i64 0, .string ⟨#[]⟩, .int .i64 0]⟩ := by kernel_rfl
@[go_sem] theorem ty_66 : tyOf Go.Proofs.Tryd.prog 66 = some ⟨.struct [(0, 1), (1, 1)], 2, 16, some [.int .i64 0, .int .i64 0]⟩ := by kernel_rfl
@[go_sem] theorem ty_67 : tyOf Go.Proofs.Tryd.prog 67 = some ⟨.struct [(0, 1), (1, 1)], 2, 16, some [.int .i64 0, .int .i64 0]⟩ := by kernel_rfl
@[go_sem] theorem ty_68 : tyOf Go.Proofs.Tryd.prog 68 = some ⟨.ptr 70, 1, 8, some [.pointer none]⟩ := by kernel_rfl
@[go_sem] theorem ty_69 : tyOf Go.Proofs.Tryd.prog 69 = some ⟨.struct [(0, 1), (1, 1), (2, 1)], 3, 56, some [.slice none 0 0, .int .i64 0, .slice none 0 0]⟩ := by kernel_rfl
@[go_sem] theorem ty_70 : tyOf Go.Proofs.Tryd.prog 70 = some ⟨.struct [(0, 1), (1, 1), (2, 1)], 3, 56, some [.slice none 0 0, .int .i64 0, .slice none 0 0]⟩ := by kernel_rfl
@[go_sem] theorem ty_73 : tyOf Go.Proofs.Tryd.prog 73 = some ⟨.ptr 75, 1, 8, some [.pointer none]⟩ := by kernel_rfl
@[go_sem] theorem ty_74 : tyOf Go.Proofs.Tryd.prog 74 = some ⟨.struct [(0, 1), (1, 1), (2, 1), (3, 1), (4, 1)], 5, 56, some [.slice none 0 0, .int .i64 0, .int .i64 0, .int .i64 0, .int .i64 0]⟩ := by kernel_rfl
@[go_sem] theorem ty_75 : tyOf Go.Proofs.Tryd.prog 75 = some ⟨.struct [(0, 1), (1, 1), (2, 1), (3, 1), (4, 1)], 5, 56, some [.slice none 0 0, .int .i64 0, .int .i64 0, .int .i64 0, .int .i64 0]⟩ := by kernel_rfl
@[go_sem] theorem ty_78 : tyOf Go.Proofs.Tryd.prog 78 = some ⟨.struct [(0, 1), (1, 3), (4, 1)], 5, 56, some [.int .i64 0, .int .i64 0, .int .i64 0, .string ⟨#[]⟩, .string ⟨#[]⟩]⟩ := by kernel_rfl
@[go_sem] theorem ty_79 : tyOf Go.Proofs.Tryd.prog 79 = some ⟨.struct [(0, 1), (1, 3), (4, 1)], 5, 56, some [.int .i64 0, .int .i64 0, .int .i64 0, .string ⟨#[]⟩, .string ⟨#[]⟩]⟩ := by kernel_rfl
@[go_sem] theorem ty_86 : tyOf Go.Proofs.Tryd.prog 86 = some ⟨.slice 42, 1, 24, some [.slice none 0 0]⟩ := by kernel_rfl
@[go_sem] theorem ty_88 : tyOf Go.Proofs.Tryd.prog 88 = some ⟨.arr 4 9, 4, 64, some [.string ⟨#[]⟩, .string ⟨#[]⟩, .string ⟨#[]⟩, .string ⟨#[]⟩]⟩ := by kernel_rfl
@[go_sem] theorem ty_99 : tyOf Go.Proofs.Tryd.prog 99 = some ⟨.arr 12 9, 12, 192, some [.string ⟨#[]⟩, .string ⟨#[]⟩, .string ⟨#[]⟩, .string ⟨#[]⟩, .string ⟨#[]⟩, .string ⟨#[]⟩, .string ⟨#[]⟩, .string ⟨#[]⟩, .string ⟨#[]⟩, .string ⟨#[]⟩, .string ⟨#[]⟩, .string ⟨#[]⟩]⟩ := by kernel_rfl
@[go_sem] theorem ty_106 : tyOf Go.Proofs.Tryd.prog 106 = some ⟨.ptr 38, 1, 8, some [.pointer none]⟩ := by kernel_rfl
@[go_sem] theorem ty_111 : tyOf Go.Proofs.Tryd.prog 111 = some ⟨.slice 3, 1, 24, some [.slice none 0 0]⟩ := by kernel_rfl
@[go_sem] theorem ty_113 : tyOf Go.Proofs.Tryd.prog 113 = some ⟨.arr 30 9, 30, 480, some [.string ⟨#[]⟩, .string ⟨#[]⟩, .string ⟨#[]⟩, .string ⟨#[]⟩, .string ⟨#[]⟩, .string ⟨#[]⟩, .string ⟨#[]⟩, .string ⟨#[]⟩, .string ⟨#[]⟩, .string ⟨#[]⟩, .string ⟨#[]⟩, .string ⟨#[]⟩, .string ⟨#[]⟩, .string ⟨#[]⟩, .string ⟨#[]⟩, .string ⟨#[]⟩, .string ⟨#[]⟩, .string ⟨#[]⟩, .string ⟨#[]⟩, .string ⟨#[]⟩, .string ⟨#[]⟩, .string ⟨#[]⟩, .string ⟨#[]⟩, .string ⟨#[]⟩, .string ⟨#[]⟩, .string ⟨#[]⟩, .string ⟨#[]⟩, .string ⟨#[]⟩, .string ⟨#[]⟩, .string ⟨#[]⟩]⟩ := by kernel_rfl
@[go_sem] theorem ty_125 : tyOf Go.Proofs.Tryd.prog 125 = some ⟨.arr 11 9, 11, 176, some [.string ⟨#[]⟩, .string ⟨#[]⟩, .string ⟨#[]⟩, .string ⟨#[]⟩, .string ⟨#[]⟩, .string ⟨#[]⟩, .string ⟨#[]⟩, .string ⟨#[]⟩, .string ⟨#[]⟩, .string ⟨#[]⟩, .string ⟨#[]⟩]⟩ := by kernel_rfl
@[go_sem] theorem ty_129 : tyOf Go.Proofs.Tryd.prog 129 = some ⟨.struct [(0, 1), (1, 1), (2, 1), (3, 1)], 4, 32, some [.string ⟨#[]⟩, .int .i64 0, .bool false, .bool false]⟩ := by kernel_rfl
@[go_sem] theorem ty_130 : tyOf Go.Proofs.Tryd.prog 130 = some ⟨.arr 6 129, 24, 192, some [.string ⟨#[]⟩, .int .i64 0, .bool false, .bool false, .string ⟨#[]⟩, .int .i64 0, .bool false, .bool false, .string ⟨#[]⟩, .int .i64 0, .bool false, .bool false, .string ⟨#[]⟩, .int .i64 0, .bool false, .bool false, .string ⟨#[]⟩, .int .i64 0, .bool false, .bool false, .string ⟨#[]⟩, .int .i64 0, .bool false, .bool false]⟩ := by kernel_rfl
@[go_sem] theorem ty_133 : tyOf Go.Proofs.Tryd.prog 133 = some ⟨.slice 31, 1, 24, some [.slice none 0 0]⟩ := by kernel_rfl
@[go_sem] theorem ty_135 : tyOf Go.Proofs.Tryd.prog 135 = some ⟨.struct [(0, 1), (1, 1), (2, 1), (3, 1)], 4, 40, some [.pointer none, .pointer none, .pointer none, .string ⟨#[]⟩]⟩ := by kernel_rfl
@[go_sem] theorem ty_136 : tyOf Go.Proofs.Tryd.prog 136 = some ⟨.struct [(0, 1), (1, 1), (2, 1), (3, 1)], 4, 40, some [.pointer none, .pointer none, .pointer none, .string ⟨#[]⟩]⟩ := by kernel_rfl
@[go_sem] theorem ty_137 : tyOf Go.Proofs.Tryd.prog 137 = some ⟨.arr 0 16, 0, 0, some []⟩ := by kernel_rfl
@[go_sem] theorem ty_138 : tyOf Go.Proofs.Tryd.prog 138 = some ⟨.struct [(0, 0)], 0, 0, some []⟩ := by kernel_rfl
@[go_sem] theorem ty_139 : tyOf Go.Proofs.Tryd.prog 139 = some ⟨.struct [(0, 0)], 0, 0, some []⟩ := by kernel_rfl
@[go_sem] theorem ty_141 : tyOf Go.Proofs.Tryd.prog 141 = some ⟨.int .u32, 1, 4, some [.int .u32 0]⟩ := by kernel_rfl
@[go_sem] theorem ty_142 : tyOf Go.Proofs.Tryd.prog 142 = some ⟨.int .u8, 1, 1, some [.int .u8 0]⟩ := by kernel_rfl
@[go_sem] theorem ty_143 : tyOf Go.Proofs.Tryd.prog 143 = some ⟨.int .u8, 1, 1, some [.int .u8 0]⟩ := by kernel_rfl
@[go_sem] theorem ty_145 : tyOf Go.Proofs.Tryd.prog 145 = some ⟨.ptr 5, 1, 8, some [.pointer none]⟩ := by kernel_rfl
@[go_sem] theorem ty_146 : tyOf Go.Proofs.Tryd.prog 146 = some ⟨.int .i32, 1, 4, some [.int .i32 0]⟩ := by kernel_rfl
@[go_sem] theorem ty_147 : tyOf Go.Proofs.Tryd.prog 147 = some ⟨.int .i32, 1, 4, some [.int .i32 0]⟩ := by kernel_rfl
@[go_sem] theorem ty_148 : tyOf Go.Proofs.Tryd.prog 148 = some ⟨.struct [(0, 1), (1, 1), (2, 1), (3, 1), (4, 1), (5, 1), (6, 1), (7, 1), (8, 1), (9, 1), (10, 1)], 11, 48, some [.int .u64 0, .int .u64 0, .int .u32 0, .int .u8 0, .int .u8 0, .int .u8 0, .int .u8 0, .nilFunc, .pointer none, .int .i32 0, .int .i32 0]⟩ := by kernel_rfl
@[go_sem] theorem ty_149 : tyOf Go.Proofs.Tryd.prog 149 = some ⟨.struct [(0, 1), (1, 1), (2, 1), (3, 1), (4, 1), (5, 1), (6, 1), (7, 1), (8, 1), (9, 1), (10, 1)], 11, 48, some [.int .u64 0, .int .u64 0, .int .u32 0, .int .u8 0, .int .u8 0, .int .u8 0, .int .u8 0, .nilFunc, .pointer none, .int .i32 0, .int .i32 0]⟩ := by kernel_rfl
@[go_sem] theorem et_7 : etTop Go.Proofs.Tryd.prog 7 = some (.str [(0, 1, .prim (.int .i64)), (1, 1, .prim (.int .i64)), (2, 1, .prim .bool), (3, 1, .prim (.int .u8))]) := by kernel_rfl
@[go_sem] theorem et_8 : etTop Go.Proofs.Tryd.prog 8 = some (.str [(0, 1, .prim (.int .i64)), (1, 1, .prim (.int .i64)), (2, 1, .prim .bool), (3, 1, .prim (.int .u8))]) := by kernel_rfl
@[go_sem] theorem et_51 : etTop Go.Proofs.Tryd.prog 51 = some (.str [(0, 1, .prim (.int .i64)), (1, 1, .prim (.int .i64)), (2, 1, .prim .str)]) := by kernel_rfl
@[go_sem] theorem et_52 : etTop Go.Proofs.Tryd.prog 52 = some (.str [(0, 1, .prim (.int .i64)), (1, 1, .prim (.int .i64)), (2, 1, .prim .str)]) := by kernel_rfl
@[go_sem] theorem et_54 : etTop Go.Proofs.Tryd.prog 54 = some (.str [(0, 1, .prim .str), (1, 1, .prim (.int .i64))]) := by kernel_rfl
@[go_sem] theorem et_55 : etTop Go.Proofs.Tryd.prog 55 = some (.str [(0, 1, .prim .str), (1, 1, .prim (.int .i64))]) := by kernel_rfl
@[go_sem] theorem et_60 : etTop Go.Proofs.Tryd.prog 60 = some (.str [(0, 1, .prim (.int .i64)), (1, 1, .prim .str), (2, 1, .prim (.int .i64))]) := by kernel_rfl
@[go_sem] theorem et_61 : etTop Go.Proofs.Tryd.prog 61 = some (.str [(0, 1, .prim (.int .i64)), (1, 1, .prim .str), (2, 1, .prim (.int .i64))]) := by kernel_rfl
@[go_sem] theorem et_66 : etTop Go.Proofs.Tryd.prog 66 = some (.str [(0, 1, .prim (.int .i64)), (1, 1, .prim (.int .i64))]) := by kernel_rfl
@[go_sem] theorem et_67 : etTop Go.Proofs.Tryd.prog 67 = some (.str [(0, 1, .prim (.int .i64)), (1, 1, .prim (.int .i64))]) := by kernel_rfl
@[go_sem] theorem et_78 : etTop Go.Proofs.Tryd.prog 78 = some (.str [(0, 1, .prim (.int .i64)), (1, 3, .str [(0, 1, .prim (.int .i64)), (1, 1, .prim (.int .i64)), (2, 1, .prim .str)]), (4, 1, .prim .str)]) := by kernel_rfl
@[go_sem] theorem et_79 : etTop Go.Proofs.Tryd.prog 79 = some (.str [(0, 1, .prim (.int .i64)), (1, 3, .str [(0, 1, .prim (.int .i64)), (1, 1, .prim (.int .i64)), (2, 1, .prim .str)]), (4, 1, .prim .str)]) := by kernel_rfl
@[go_sem] theorem et_129 : etTop Go.Proofs.Tryd.prog 129 = some (.str [(0, 1, .prim .str), (1, 1, .prim (.int .i64)), (2, 1, .prim .bool), (3, 1, .prim .bool)]) := by kernel_rfl
end Go.AM
